/- Lemmas of this claim. -/
import Derived.Test.YtnjokdbblmlhhaaGreatDoorGW03Y
import Derived.StillTailTactics
set_option linter.unusedVariables false
set_option linter.unusedSimpArgs false
namespace Go.Proofs.YtnjokdbblmlhhaaGreatDoor
set_option maxHeartbeats 4000000
set_option maxRecDepth 100000
open Go.RowKit
theorem Lt(r:Nat)(w:World) :
  Calls Tryz.prog 154 #[.int .i32 r] w fun e w'=>e=.returned (.bool (Hl r))∧w'=w:=by
 by_cases h1:r<32
 ·have h2:(r:Int)<32:=by omega
  have h3:Hl r=true:=by simp[Hl,h1]
  rw[h3];clear h1 h3;go_enter Tryz.func154,Tryz.ntmps154
  go_wp2;go_ret;exact⟨rfl,rfl⟩
 ·by_cases h2:r=127
  ·subst h2;rw[show Hl 127=true from rfl];go_enter Tryz.func154,Tryz.ntmps154
   go_wp2;go_ret;exact⟨rfl,rfl⟩
  ·have h3:Hl r=false:=by unfold Hl;simp;omega
   rw[h3];have h4:(32:Int)≤(r:Int):=by omega
   have h5:((r:Int)==127)=false:=by simp;omega
   clear h1 h2 h3;go_enter Tryz.func154,Tryz.ntmps154
   go_wp2;go_ret;exact⟨Bn (decide_eq_false (by omega)),rfl⟩
theorem Kv(s:ByteArray)(w:World)(h:s.size≤1099511627776) :
  Calls Tryz.prog 185 #[.string s,.func (.func 154) #[] #[],.bool true] w fun e w'=>
   ∃k:Int,e=.returned (.int .i64 k)∧(decide (0≤k)=s.data.toList.any oddB)∧Below w.heap.size w w':=by
 go_enter Tryz.func185,Tryz.ntmps185
 go_wp2
 go_loopg [] s.size (fun g X=>∃(k:Nat),k≤s.size∧s.size≤k+g∧Hid (s.data.toList.any oddB=(s.data.toList.drop k).any oddB)∧X=w.iter s k)
 case atStart=>exact⟨0,by omega,by omega,Ab rfl,rfl⟩
 case round=>
  obtain⟨k,hk,U,N,rfl⟩:=hrel;by_cases D:k<s.size
  ·have Q:=fun J=>run_next_any (P:=Tryz.prog) w s k J D;obtain⟨Z,Y,S⟩:=Ob s k D
   have G:(s.data.toList.drop k).any oddB=(Hl (Utf8.decode s k).1||(s.data.toList.drop (k+(Utf8.decode s k).2)).any oddB):=by
    rw[←S,←zI,←List.any_append,List.take_append_drop]
   have R:=Ab G;clear G S;cases ho:Hl (Utf8.decode s k).1 with
   |true=>
    have I:=Ab ho;clear ho;go_wp2_with (go_at_call 154;refine(Lt _ _).mono ?_;rintro e w' ⟨rfl,rfl⟩;rw[Aa I])
    go_ret;refine⟨_,rfl,?_,Fi w s _⟩;rw[Aa N,Aa R,Aa I];simp
   |false=>
    have I:=Ab ho;clear ho;go_wp2_with (go_at_call 154;refine(Lt _ _).mono ?_;rintro e w' ⟨rfl,rfl⟩;rw[Aa I])
    go_roundg (gk-1)
    case measure=>omega
    case rel=>
     refine⟨k+(Utf8.decode s k).2,Y,by omega,Ab ?_,rfl⟩;rw[Aa N,Aa R,Aa I,Bool.false_or]
  ·have Q:=fun J=>run_next_end (P:=Tryz.prog) w s k J D;go_wp2;go_ret;refine⟨_,rfl,?_,Fi w s _⟩;rw[Aa N,List.drop_eq_nil_of_le (by rw[←zP];omega)];rfl
theorem Pa(s:ByteArray)(w:World)(h:s.size≤1099511627776) :
  Calls Tryz.prog 130 #[.string s] w fun e w'=>e=.returned (.bool (s.data.toList.any oddB))∧Below w.heap.size w w':=by
 obtain⟨B,hB⟩:∃B,s.data.toList.any oddB=B:=⟨_,rfl⟩;rw[hB]
 have I:∀w,Calls Tryz.prog 174 #[.string s,.func (.func 154) #[] #[]] w fun e w'=>
   ∃k:Int,e=.returned (.int .i64 k)∧(decide (0≤k)=B)∧Below w.heap.size w w':=by
  intro w;go_enter Tryz.func174,Tryz.ntmps174
  go_wp2_with (go_at_call 185;refine(Kv s _ h).mono ?_;rintro e w' ⟨k,rfl,hk,hb⟩)
  go_ret;exact⟨k,rfl,hk.trans hB,hb⟩
 have D:∀w,Calls Tryz.prog 153 #[.string s,.func (.func 154) #[] #[]] w fun e w'=>
   e=.returned (.bool (B))∧Below w.heap.size w w':=by
  intro w;go_enter Tryz.func153,Tryz.ntmps153
  go_wp2_with (go_at_call 174;refine(I _).mono ?_;rintro e w' ⟨k,rfl,hk,hb⟩;have G:=Ab hk;clear hk)
  all_goals go_ret
  all_goals exact⟨Bn (Aa G),hb⟩
 go_enter Tryz.func130,Tryz.ntmps130
 go_wp2_with (go_at_call 153;refine(D _).mono ?_;rintro e w' ⟨rfl,hb⟩)
 all_goals go_ret
 all_goals exact⟨rfl,hb⟩
end Go.Proofs.YtnjokdbblmlhhaaGreatDoor
namespace Go.Proofs.YtnjokdbblmlhhaaGreatDoor
set_option maxHeartbeats 4000000
set_option maxRecDepth 100000
open Go.RowKit
def Id(l:List UInt8)(k:Nat):Bool:=k==0||l[k-1]?==some 32
theorem Va(c:UInt8):((c.toNat:Int)==34)=(c==34):=by revert c;apply D1;decide +kernel
theorem Vp(c:UInt8):((c.toNat:Int)==35)=(c==35):=by revert c;apply D1;decide +kernel
theorem Vn(c:UInt8):((c.toNat:Int)==92)=(c==92):=by revert c;apply D1;decide +kernel
theorem i32(c:UInt8):((c.toNat:Int)==32)=(c==32):=by revert c;apply D1;decide +kernel
theorem Ko(s:ByteArray)(k:Nat)(h:k<s.size):Id s.data.toList (k+1)=(s[k]==32):=by
 unfold Id;rw[zL,Lib.data_getElem? s k h];have:(k+1==0)=false:=by simp
 rw[this,Bool.false_or];cases hc:(s[k]==32)
 ·simp at hc ⊢;exact hc
 ·simp at hc ⊢;exact hc
theorem Lu(s:ByteArray)(k:Nat)(w t:Bool)(h:k<s.size) :
  B1 (Id s.data.toList k) w t k (s.data.toList.drop k) =
   if t then B1 (Id s.data.toList (k+1)) w false (k+1) (s.data.toList.drop (k+1))
   else if w&&s[k]==92 then B1 (Id s.data.toList (k+1)) w true (k+1) (s.data.toList.drop (k+1))
   else if s[k]==34 then B1 (Id s.data.toList (k+1)) (!w) false (k+1) (s.data.toList.drop (k+1))
   else if w||s[k] != 35 then B1 (Id s.data.toList (k+1)) w false (k+1) (s.data.toList.drop (k+1))
   else if Id s.data.toList k then k
   else B1 (Id s.data.toList (k+1)) w false (k+1) (s.data.toList.drop (k+1)):=by
 have hl:k<s.data.toList.length:=by rw[←zP];exact h
 rw[qL hl,B1,Ko s k h];rfl
theorem Ni(s:ByteArray)(k:Nat)(b w t:Bool)(h:s.size≤k):B1 b w t k (s.data.toList.drop k)=k:=by
 rw[List.drop_eq_nil_of_le (by rw[←zP];exact h),B1]
theorem Hk(s:ByteArray)(w:World)(hs:s.size≤1099511627776) :
  Calls Tryz.prog 134 #[.string s,.string ⟨#[32]⟩] w fun e w'=>e=.returned (.string ⟨(Pl s.data.toList).toArray⟩)∧w'=w:=
 Tryz.strings_TrimRight_one s 32 (by decide) w (by omega)
theorem P8(s:ByteArray)(w:World) :
  Calls Tryz.prog 101 #[.string s,.string ⟨#[32]⟩] w fun e w'=>e=.returned (.string ⟨(Fo s.data.toList).toArray⟩)∧w'=w:=
 Tryz.strings_TrimLeft_one s 32 (by decide) w
theorem Is{s:ByteArray}{k:Nat}(h:B1 true false false 0 s.data.toList=k):C1 s.data.toList=Pl (s.extract 0 k).data.toList:=by
 rw[C1,h,Lib.extract_data,List.drop_zero,Nat.sub_zero]
theorem Lj(s:ByteArray):s.extract 0 s.size=s:=by
 rw[Lib.extract_eq,List.drop_zero,Nat.sub_zero,List.take_of_length_le (by rw[←zP];exact qJ _)]
theorem Qp(s:ByteArray)(w:World)(h:s.size≤1099511627776) :
  Calls Tryz.prog 100 #[.string s] w fun e w'=>e=.returned (.string ⟨(C1 s.data.toList).toArray⟩)∧∃n,w'=w.drewN n:=by
 go_enter Tryz.func100,Tryz.ntmps100
 go_wp2;go_step3;go_wp2;go_step3;go_wp2
 go_loopg [3,4,5,11] s.size (fun g s3 s4 s5 aC wx=>∃(k n:Nat) (wi ta:Bool),k+g=s.size∧s3=.int .i64 s.size∧s4=.bool wi∧s5=.bool ta∧aC=.int .i64 k ∧
  Hid (B1 true false false 0 s.data.toList=B1 (Id s.data.toList k) wi ta k (s.data.toList.drop k))∧wx=w.drewN n)
 case atStart=>exact⟨0,0,false,false,by omega,rfl,rfl,rfl,rfl,Ab rfl,rfl⟩
 case round=>
  obtain⟨k,n,wi,ta,aN,rfl,rfl,rfl,rfl,HP,hw⟩:=hrel;have U:=Ab hw;clear hw;cases gk with
  |zero=>
   have e1:(s.size:Int)=(k:Int):=by omega
   have aB:s.size≤k:=by omega
   have HE:=Ab (Ni s k (Id s.data.toList k) wi ta aB);have HF:=Ab (Is ((Aa HP).trans (Aa HE)));have aH:k=s.size:=by omega
   subst aH;clear HE e1 aB;go_wp2_with (go_at_call 134;refine(Hk _ _ (by first|assumption|(rw[ByteArray.size_extract];omega))).mono ?_;rintro e w' ⟨rfl,rfl⟩)
   all_goals (try rw[Exit.noGoto_ret])
   all_goals go_ret
   all_goals refine⟨Im ?_,n,Aa U⟩
   all_goals rw[Aa HF]
   all_goals first|rfl|rw[Lj]
  |succ g'=>
   have aD:k<s.size:=by omega
   have aJ:(k:Int)<(s.size:Int):=by omega
   have G:=Ab ((Aa HP).trans (Lu s k wi ta aD));have aO:IntKind.i64.wrap ((k:Int)+1)=(k:Int)+1:=qG _ (by omega);clear HP;cases ta with
   |true=>
    rw[if_pos rfl]at G;go_wp2;go_roundg g'
    case measure=>omega
    case rel=>exact⟨k+1,n,wi,false,by omega,rfl,rfl,rfl,by go_num,G,Aa U⟩
   |false=>
    rw[if_neg (by simp)]at G;cases wi with
    |true=>
     by_cases N:(s[k]==92)=true
     ·have aI:((s[k].toNat:Int)==92)=true:=by rw[Vn];exact N
      rw[if_pos (by rw[N];rfl)]at G;clear N;go_wp2;go_roundg g'
      case measure=>omega
      case rel=>exact⟨k+1,n,true,true,by omega,rfl,rfl,rfl,by go_num,G,Aa U⟩
     ·have R:(s[k]==92)=false:=by simpa using N
      have aI:((s[k].toNat:Int)==92)=false:=by rw[Vn];exact R
      rw[if_neg (by rw[R];simp)]at G;clear N R;by_cases D:(s[k]==34)=true
      ·have Z:((s[k].toNat:Int)==34)=true:=by rw[Va];exact D
       rw[if_pos D]at G;clear D;go_wp2;go_roundg g'
       case measure=>omega
       case rel=>exact⟨k+1,n,false,false,by omega,rfl,rfl,rfl,by go_num,G,Aa U⟩
      ·have I:(s[k]==34)=false:=by simpa using D
       have Z:((s[k].toNat:Int)==34)=false:=by rw[Va];exact I
       rw[if_neg D,if_pos (by simp)]at G;clear D I;go_wp2;go_roundg g'
       case measure=>omega
       case rel=>exact⟨k+1,n,true,false,by omega,rfl,rfl,rfl,by go_num,G,Aa U⟩
    |false=>
     rw[if_neg (by simp)]at G;by_cases D:(s[k]==34)=true
     ·have Z:((s[k].toNat:Int)==34)=true:=by rw[Va];exact D
      rw[if_pos D]at G;clear D;go_wp2;go_roundg g'
      case measure=>omega
      case rel=>exact⟨k+1,n,true,false,by omega,rfl,rfl,rfl,by go_num,G,Aa U⟩
     ·have I:(s[k]==34)=false:=by simpa using D
      have Z:((s[k].toNat:Int)==34)=false:=by rw[Va];exact I
      rw[if_neg D]at G;clear D I;by_cases S:(s[k]==35)=true
      ·have aG:((s[k].toNat:Int) != 35)=false:=by rw[bne,Vp,S];rfl
       rw[if_neg (by rw[bne,S];simp)]at G;clear S;cases k with
       |zero=>
        rw[if_pos (show Id s.data.toList 0=true from rfl)]at G;have HF:=Ab (Is (Aa G));clear G;go_wp2;go_quiet (fail)
        go_wp2_with (go_at_call 134;refine(Hk ByteArray.empty _ (by decide)).mono ?_;rintro e w' ⟨rfl,rfl⟩)
        all_goals (try rw[Exit.noGoto_ret])
        all_goals go_ret
        all_goals refine⟨Im ?_,_,by rw[Aa U,World.drewN_drewN]⟩
        all_goals rw[Aa HF]
        all_goals first|rfl|(rw[show s.extract 0 0=ByteArray.empty from by rw[Lib.extract_eq];rfl];rfl)|(simp;rfl)
       |succ k'=>
        have aA:k'<s.size:=by omega
        have aK:(k':Int)<(s.size:Int):=by omega
        have aL:IntKind.i64.wrap (k':Int)=(k':Int):=qG _ (by omega);have aM:((k':Int)+1==0)=false:=by simp;omega
        have Y:=Ko s k' aA;rw[Y]at G;by_cases J:(s[k']==32)=true
        ·have aE:((s[k'].toNat:Int)==(((⟨#[32]⟩:ByteArray)[0]'(by decide)).toNat:Int))=true:=by show ((s[k'].toNat:Int)==32)=true;rw[i32];exact J
         have hex:(s.extract 0 (k'+1)).size≤1099511627776:=by rw[ByteArray.size_extract];omega
         rw[if_pos J]at G;have HF:=Ab (Is (Aa G));clear J G Y;go_wp2;go_quiet (fail)
         go_wp2_with (go_at_call 134;refine(Hk (s.extract 0 (k'+1)) _ hex).mono ?_;rintro e w' ⟨rfl,rfl⟩)
         all_goals (try rw[Exit.noGoto_ret])
         all_goals go_ret
         all_goals refine⟨Im ?_,_,by rw[Aa U,World.drewN_drewN]⟩
         all_goals rw[Aa HF]
         all_goals (rw[Lib.extract_data];try simp)
        ·have X:(s[k']==32)=false:=by simpa using J
         have aE:((s[k'].toNat:Int)==(((⟨#[32]⟩:ByteArray)[0]'(by decide)).toNat:Int))=false:=by show ((s[k'].toNat:Int)==32)=false;rw[i32];exact X
         rw[if_neg J]at G;clear J X Y;go_wp2;go_quiet (fail)
         go_wp2_with fail
         go_roundg g'
         case measure=>omega
         case rel=>exact⟨k'+1+1,_,false,false,by omega,rfl,rfl,rfl,by go_num,G,by rw[Aa U,World.drewN_drewN]⟩
      ·have Q:(s[k]==35)=false:=by simpa using S
       have aG:((s[k].toNat:Int) != 35)=true:=by rw[bne,Vp,Q];rfl
       rw[if_pos (by rw[bne,Q];rfl)]at G;clear S Q;go_wp2;go_roundg g'
       case measure=>omega
       case rel=>exact⟨k+1,n,false,false,by omega,rfl,rfl,rfl,by go_num,G,Aa U⟩
end Go.Proofs.YtnjokdbblmlhhaaGreatDoor
namespace Go.Proofs.YtnjokdbblmlhhaaGreatDoor
set_option maxHeartbeats 4000000
set_option maxRecDepth 100000
open Go.RowKit Go.Shelf
attribute [local go_sem] Oper.semAt_some
def Ew(s:List UInt8):Option Nat:=(Bk s).findIdx? (·.any oddB)
def Bv(s:List UInt8):Int × Int:=
 if 1048576<s.length then (2,0)
 else if 0≤P03.first s then (9,(Lib.countByte (s.take (P03.first s).toNat) 10:Int)+1)
 else match Ew s with
  |some i=>(3,(i:Int)+1)
  |none=>(0,0)
def D3(f:Int × Int):Value:=.agg #[.int .i64 f.1,.int .i64 f.2]
theorem H8:∀(f p:Nat) (l:List UInt8),P03.firstBad f p l≤(p:Int)+l.length
 |0,p,l=>by unfold P03.firstBad;omega
 |f+1,p,l=>by
  unfold P03.firstBad;split
  ·omega
  ·split
   ·omega
   ·rename_i h0 h1
    have h2:=P03.one_bd l (by omega);have h3:=H8 f (p+(P03.one l).1.toNat) (l.drop (P03.one l).1.toNat);rw[qQ]at h3;omega
theorem Si(l:List UInt8):P03.first l≤l.length:=by
 have:=H8 (l.length+1) 0 l;unfold P03.first
 omega
theorem Da{W:World}{g:Nat}{t:TypeId}{a b:Value}(h:W.heap[g]?=some (.cells #[a,b] t))(v:Value):(W.setCell ⟨g,0,none⟩ v).heap[g]?=some (.cells #[v,b] t):=by
 obtain⟨D,hk⟩:=qA.1 h;show (W.heap.modify g _)[g]?=_;rw[Array.getElem?_eq_getElem (by rw[Array.size_modify];exact D),Array.getElem_modify_self,hk];rfl
theorem Db{W:World}{g:Nat}{t:TypeId}{a b:Value}(h:W.heap[g]?=some (.cells #[a,b] t))(v:Value):(W.setCell ⟨g,1,none⟩ v).heap[g]?=some (.cells #[a,v] t):=by
 obtain⟨D,hk⟩:=qA.1 h;show (W.heap.modify g _)[g]?=_;rw[Array.getElem?_eq_getElem (by rw[Array.size_modify];exact D),Array.getElem_modify_self,hk];rfl
theorem A9{W:World}{g:Nat}{t:TypeId}{a b:Value}(h:W.heap[g]?=some (.cells #[a,b] t)):W.cell? ⟨g,0,none⟩=some a∧W.frozen? ⟨g,0,none⟩=false:=by simp[World.cell?,World.frozen?,h]
theorem A8{W:World}{g:Nat}{t:TypeId}{a b:Value}(h:W.heap[g]?=some (.cells #[a,b] t)):W.cell? ⟨g,1,none⟩=some b∧W.frozen? ⟨g,1,none⟩=false:=by simp[World.cell?,World.frozen?,h]
theorem Ap(W:World)(g i:Nat)(v:Value):W.grownBy (W.setCell ⟨g,i,none⟩ v) (some g):=
 ⟨rfl,rfl,rfl,(KeepsWalks.setCell W _ v).size,fun k _ hk=>qC _ _ _ k (fun e=>hk (by rw[e]))⟩
theorem Qc(s:ByteArray)(w:World)(hs:s.size≤1048576)(hf:0≤P03.first s.data.toList) :
  Calls Tryz.prog 98 #[.string s] w fun e w'=>e=.returned (D3 (Bv s.data.toList))∧Below w.heap.size w w':=by
 have N:s.data.toList.length=s.size:=(zP s).symm;obtain⟨k,hk⟩:=Int.eq_ofNat_of_zero_le hf;have R:k≤s.size:=by have:=Si s.data.toList;omega
 have J:(k:Int)≤(s.size:Int):=by omega
 obtain⟨c,hc⟩:∃c:Nat,Lib.countByte (s.extract 0 k).data.toList 10=c:=⟨_,rfl⟩
 have X:c≤1048576:=by
  rw[←hc,Lib.countByte];refine qK (List.count_le_length) ?_;rw[←zP,ByteArray.size_extract];omega
 have hch:Bv s.data.toList=(9,(c:Int)+1):=by
  rw[Bv,if_neg (by omega),if_pos hf,hk,zH,←hc,Lib.extract_data,List.drop_zero,Nat.sub_zero]
 have Z:IntKind.i64.wrap ((c:Int)+1)=(c:Int)+1:=qG _ (by omega);rw[hch];have U:=Ab hc;have HK:=Ab hk;clear hc hch hf hk;refine(callsIn_wide (n:=40)).1 ?_;refine callsIn_of_wp_marks Tryz.func98 rfl trivial ?_ rfl;simp only[Tryz.ntmps98,zD,qE,qP,Nat.reduceAdd,Nat.reduceSub,Array.replicate_succ,Array.replicate_zero,List.push_toArray,List.append_toArray,zK,zJ]
 gi_wp2_with (first
  |(refine⟨trivial,?_⟩;gi_at_call 82;refine(callsIn_wide.2 (Ho s _ (by omega))).mono ?_;rintro e w' ⟨rfl,hb⟩;rw[Aa HK];have I:w'.heap[w.heap.size]?=some (.cells #[.int .i64 0,.int .i64 0] 29):=(hb.block _ (by simp)).trans (qB w _);have aA:=(A9 I).1;have Q:=(A9 I).2;have S:=(A8 I).1;have Y:=(A8 I).2)
  | (refine⟨trivial,?_⟩;gi_at_call 129;refine(callsIn_wide.2 (Tryz.strings_Count_one (s.extract 0 k) 10 _)).mono ?_;rintro e D ⟨rfl,rfl⟩;rw[Aa U]))
 refine⟨_,results_cell_row rfl _ _ _ _ _ _ _ rfl (Db (Da I _) _) Tryz.underlying29 rfl (by kernel_rfl),rfl,?_⟩;have G:Below w.heap.size w D:=((qV _ w).alloc (qJ _) _).trans (hb.mono (by simp));exact(G.grown (Ap D w.heap.size 0 _) G.size (fun k e=>by cases e;exact qJ _)).grown (Ap _ w.heap.size 1 _) (qK G.size (Ap D w.heap.size 0 _).size) (fun k e=>by cases e;exact qJ _)
theorem Bo.of_below{T:Nat→Prop}{V D:World}(h:Below V.heap.size V D):Bo T V D:=⟨h.size,fun r _ hl=>h.block r hl⟩
theorem Bq{w V:World}(h:Below w.heap.size w V)(i:Nat)(v:Value){D:Nat}(G:w.heap.size≤D):Below w.heap.size w (V.setCell ⟨D,i,none⟩ v):=
 h.grown (Ap V D i v) h.size (fun k e=>by cases e;exact G)
theorem G6{s:List UInt8}{i:Nat}{x:Nat × List UInt8}(h:(Cz s)[i]?=some x):x.1=i+1∧(Bk s)[i]?=some x.2:=by
 unfold Cz at h;rw[zF,List.getElem?_zipIdx]at h;unfold Bk;rw[zF];cases hr:(C7 s)[i]? with
 |none=>rw[hr]at h;simp at h
 |some l=>rw[hr]at h;simp at h;subst h;exact⟨rfl,rfl⟩
theorem Ks{s:List UInt8}{i:Nat}{l:List UInt8}(h0:∀j l,j<i→(Bk s)[j]?=some l→l.any oddB=false)(h:(Bk s)[i]?=some l)(ho:l.any oddB=true):Ew s=some i:=by
 unfold Ew;obtain⟨hi,hl⟩:=qI.1 h;rw[List.findIdx?_eq_some_iff_getElem];refine⟨hi,by rw[hl];exact ho,fun j hj=>?_⟩;rw[h0 j _ hj (qO (Nat.lt_trans hj hi))];simp
theorem K7{s:List UInt8}(h0:∀j l,j<(Bk s).length→(Bk s)[j]?=some l→l.any oddB=false):Ew s=none:=by
 unfold Ew;rw[List.findIdx?_eq_none_iff];intro l hl;obtain⟨j,hj,rfl⟩:=List.mem_iff_getElem.1 hl;exact h0 j _ hj (qO hj)
theorem F3(s:List UInt8):(Cz s).length=(Bk s).length:=by rw[Ff];simp[Bk]
theorem Gq{s l:List UInt8}(h:l∈Bk s):l.length≤s.length:=by
 unfold Bk at h;obtain⟨r,hr,rfl⟩:=List.mem_map.1 h;have:=Iv s r hr;unfold Ib;split
 ·simp;omega
 ·exact this
theorem Oa(s:ByteArray)(w:World)(hs:s.size≤1048576)(hf:P03.first s.data.toList<0) :
  Calls Tryz.prog 98 #[.string s] w fun e w'=>e=.returned (D3 (Bv s.data.toList))∧Below w.heap.size w w':=by
 have aQ:s.data.toList.length=s.size:=(zP s).symm;obtain⟨R,Q⟩:∃R,Bv s.data.toList=R:=⟨_,rfl⟩
 have X:∀j,Ew s.data.toList=some j→R=(3,(j:Int)+1):=fun j hj=>by
  rw[←Q,Bv,if_neg (by omega),if_neg (by omega),hj]
 have U:Ew s.data.toList=none→R=(0,0):=fun hj=>by
  rw[←Q,Bv,if_neg (by omega),if_neg (by omega),hj]
 rw[Q];have aO:=Ab X;have aN:=Ab U;clear X U Q;have HK:=Ab hf;refine(callsIn_wide (n:=40)).1 ?_;refine callsIn_of_wp_marks Tryz.func98 rfl trivial ?_ rfl;simp only[Tryz.ntmps98,zD,qE,qP,Nat.reduceAdd,Nat.reduceSub,Array.replicate_succ,Array.replicate_zero,List.push_toArray,List.append_toArray,zK,zJ];generalize hp:P03.first s.data.toList=p at hf
 gi_wp2_with (first
  |(refine⟨trivial,?_⟩;gi_at_call 82;refine(callsIn_wide.2 (Ho s _ (by omega))).mono ?_;rintro e w' ⟨rfl,hb⟩;rw[hp];have hR:w'.heap[w.heap.size]?=some (.cells #[.int .i64 0,.int .i64 0] 29):=(hb.block _ (by simp)).trans (qB w _);have aC:Below w.heap.size w w':=((qV _ w).alloc (qJ _) _).trans (hb.mono (by simp));clear hb)
  | (refine⟨trivial,?_⟩;gi_at_call 99;refine(callsIn_wide.2 (Kn s _)).mono ?_;rintro e w' ⟨rfl,rfl⟩))
 have aI:w.heap.size<w'.heap.size:=(qA.1 hR).1;obtain⟨b,hb⟩:∃b,w'.heap.size=b:=⟨_,rfl⟩;have aE:Boxed (w'.alloc (.cells #[.string s] 9)) b 9 (.string s):=by rw[←hb];exact Boxed.new _ _ _
 have aG:(w'.alloc (.cells #[.string s] 9)).heap[w.heap.size]?=some (.cells #[.int .i64 0,.int .i64 0] 29):=(qD _ _ _ aI).trans hR;have Y:Below w.heap.size w (w'.alloc (.cells #[.string s] 9)):=aC.alloc aC.size _;obtain⟨W2,aB⟩:∃W2,w'.alloc (.cells #[.string s] 9)=W2:=⟨_,rfl⟩;have aR:W2.heap.size=b+1:=by rw[←aB,←hb];simp
 rw[aB]at aE aG Y ⊢;rw[hb]at aI ⊢;clear aB hR aC hb
 refine Dy rfl (by omega) (gf:=131) (lb:=#[.pointer (some ⟨b,0,none⟩)]) rfl trivial (enters_of Tryz.func131 (by kernel_rfl) rfl)
  (encs:=Se) (Cz s.data.toList) (fun _=>False) 5 (fun r hr=>hr.elim)
  (fun V hg hV=>Gh (40-1) s _ _ V (aE.kept hg (by simp)).cell (fun r h1 h2=>.inr ⟨by omega,by omega⟩) (by omega) (by omega)) (fun _=>rfl)
  (fun i V=>V.heap[w.heap.size]?=some (.cells #[.int .i64 0,.int .i64 0] 29)∧Below w.heap.size w V∧Hid (∀j l,j<i→(Bk s.data.toList)[j]?=some l→l.any oddB=false))
  (fun c i V=>c=.ret∧∃j:Nat,V.heap[w.heap.size]?=some (.cells #[.int .i64 3,.int .i64 ((j:Int)+1)] 29)∧Below w.heap.size w V∧Hid (Ew s.data.toList=some j))
  (fun i V V' row h hg hr=>⟨(hg.block _ (qA.1 h.1).1 (fun e=>by rcases hr _ e.symm with h3|h3;exact h3.elim;omega)).trans h.1,h.2.1.grown hg h.2.1.size (fun k e=>by rcases hr k e with h3|h3;exact h3.elim;omega),h.2.2⟩)
  (fun c i V V' row h hg hr=>by
   obtain⟨hc,j,h1,h2,h3⟩:=h
   exact⟨hc,j,(hg.block _ (qA.1 h1).1 (fun e=>by rcases hr _ e.symm with h3|h3;exact h3.elim;omega)).trans h1,h2.grown hg h2.size (fun k e=>by rcases hr k e with h3|h3;exact h3.elim;omega),h3⟩)
  ⟨aG,Y,Ab (fun j l hj=>absurd hj (Nat.not_lt_zero _))⟩
  (fun x=>{ tmps:=#[.string s,undef,.pointer (some ⟨w.heap.size,0,none⟩),.int .i64 p,.int .i64 x.1,C0 x.2,.string s,.int .i64 s.size,.bool (decide ((1048576:Int)<(s.size:Int))),undef,.string s,.int .i64 p,.int .i64 p,.bool (decide ((0:Int)≤p)),undef,undef,undef,undef,undef,undef,.string s,
   .func (.func 131) #[] #[.pointer (some ⟨b,0,none⟩)],.int .i64 x.1,C0 x.2,undef,undef,undef,undef,undef],defers:=[] }) ?assign ?body ?done ?stop
 case assign=>
  intro l2 x V K hK;unfold Se
  gi_wp2
  exact hK
 case body=>
  rintro l2 i x V hx ⟨G,J,HO⟩ hV;obtain⟨aK,S⟩:=G6 hx;have aA:x.2.length≤1099511627776:=qK (Gq (qN S)) (by omega);obtain⟨n1,l⟩:=x;simp only at aK S aA;subst aK;have HX:=Ab S;clear hx S;unfold C0;have aS:1≤40-1-1:=by omega
  cases ho:l.any oddB with
  |true=>
   have HB:=Ab ho;clear ho
   gi_wp2_with (refine⟨trivial,?_⟩;gi_at_call 130;refine(CallsIn.inRound l2 (callsIn_wide.2 (Pa ⟨l.toArray⟩ _ aA))).mono ?_;rintro e w3 ⟨rfl,N⟩;rw[show (⟨l.toArray⟩:ByteArray).data.toList.any oddB=true from Aa HB];have I:w3.heap[w.heap.size]?=some (.cells #[.int .i64 0,.int .i64 0] 29):=(N.block _ (qA.1 G).1).trans G;have aH:=(A9 I).1;have aD:=(A9 I).2;have aJ:=(A8 I).1;have aL:=(A8 I).2)
   refine⟨((Bo.of_below N).trans (.of_grownBy (Ap w3 _ 0 _) (fun r e hr=>by cases e;rcases hr with hr|hr;exact hr;omega))).trans (.of_grownBy (Ap _ _ 1 _) (fun r e hr=>by cases e;rcases hr with hr|hr;exact hr;omega)),
    rfl,i,Db (Da I _) _,Bq (Bq (J.trans (N.mono J.size)) 0 _ (qJ _)) 1 _ (qJ _),Ab (Ks (Aa HO) (Aa HX) (Aa HB))⟩
  |false=>
   have HB:=Ab ho;clear ho
   gi_wp2_with (refine⟨trivial,?_⟩;gi_at_call 130;refine(CallsIn.inRound l2 (callsIn_wide.2 (Pa ⟨l.toArray⟩ _ aA))).mono ?_;rintro e w3 ⟨rfl,N⟩;rw[show (⟨l.toArray⟩:ByteArray).data.toList.any oddB=false from Aa HB];have I:w3.heap[w.heap.size]?=some (.cells #[.int .i64 0,.int .i64 0] 29):=(N.block _ (qA.1 G).1).trans G;have aH:=(A9 I).1;have aD:=(A9 I).2;have aJ:=(A8 I).1;have aL:=(A8 I).2)
   refine⟨Bo.of_below N,I,J.trans (N.mono J.size),Ab (fun j l' hj Z=>?_)⟩;rcases Nat.lt_or_ge j i with h4|h4
   ·exact Aa HO j l' h4 Z
   ·obtain rfl:j=i:=by omega
    rw[Aa HX]at Z;cases Z;exact Aa HB
 case done=>
  rintro D V rfl ⟨G,J,HO⟩ hK;have aH:=(A9 G).1;have aD:=(A9 G).2;have aJ:=(A8 G).1;have aL:=(A8 G).2;have HN:=Ab (K7 (fun j l hj hl=>Aa HO j l (by rw[F3];exact hj) hl))
  gi_wp2
  have aM:((V.setCell ⟨w.heap.size,0,none⟩ (.int .i64 0)).setCell ⟨w.heap.size,1,none⟩ (.int .i64 0)).heap[W2.heap.size]?=some (.deferred (some [])):=
   (qC _ _ _ _ (by show W2.heap.size≠w.heap.size;omega)).trans ((qC _ _ _ _ (by show W2.heap.size≠w.heap.size;omega)).trans hK)
  refine⟨by simp,.inl ⟨_,_,rfl,run_takeDeferred aM,?_⟩⟩;refine⟨_,results_cell_row rfl _ _ _ _ _ _ _ rfl ((World.putObj_heap_other (by omega)).trans (Db (Da G _) _)) Tryz.underlying29 rfl (by kernel_rfl),?_,Fj (Bq (Bq J 0 _ (qJ _)) 1 _ (qJ _)) _ (by omega)⟩;rw[Aa aN (Aa HN)];rfl
 case stop=>
  rintro D c i V rfl hi ⟨rfl,j,G,J,HO⟩ hK
  gi_wp2
  refine⟨by simp,.inl ⟨_,_,rfl,run_takeDeferred hK,?_⟩⟩;refine⟨_,results_cell_row rfl _ _ _ _ _ _ _ rfl ((World.putObj_heap_other (by omega)).trans G) Tryz.underlying29 rfl (by kernel_rfl),?_,Fj J _ (by omega)⟩;rw[Aa aO j (Aa HO)];rfl
theorem Kj(s:ByteArray)(w:World)(hs:s.size≤1048576) :
  Calls Tryz.prog 98 #[.string s] w fun e w'=>e=.returned (D3 (Bv s.data.toList))∧Below w.heap.size w w':=by
 by_cases hf:0≤P03.first s.data.toList
 ·exact Qc s w hs hf
 ·exact Oa s w hs (by omega)
end Go.Proofs.YtnjokdbblmlhhaaGreatDoor
namespace Go.Proofs.YtnjokdbblmlhhaaGreatDoor
set_option maxHeartbeats 4000000
set_option maxRecDepth 100000
open Go.RowKit Go.Shelf
attribute [local go_sem] Oper.semAt_some
def Dv(k:Nat)(l:List UInt8):Option (Nat × Nat × List UInt8):=
 if Fo (C1 l)=[] then none else some (k+1,(C1 l).length-(Fo (C1 l)).length,Fo (C1 l))
def Bh:Nat→List (List UInt8)→List (Nat × Nat × List UInt8)
 |_,[]=>[]
 |k,l::r=>match Dv k l with
  |none=>Bh (k+1) r
  |some x=>x::Bh (k+1) r
def Dz(s:List UInt8):List (Nat × Nat × List UInt8):=Bh 0 (Bk s)
theorem Gl:∀(k:Nat) (ls:List (List UInt8)) (l:List UInt8),Bh k (ls++[l])=Bh k ls++(Dv (k+ls.length) l).toList
 |k,[],l=>by
  show (match Dv k l with|none=>[]|some x=>[x])=(Dv k l).toList;cases Dv k l<;>rfl
 |k,a::r,l=>by
  have ih:=Gl (k+1) r l;have e:k+1+r.length=k+(a::r).length:=by simp;omega
  rw[e]at ih;show (match Dv k a with|none=>Bh (k+1) (r++[l])|some x=>x::Bh (k+1) (r++[l]))=(match Dv k a with|none=>Bh (k+1) r|some x=>x::Bh (k+1) r)++_;cases Dv k a
  ·exact ih
  ·simp only;rw[ih];rfl
theorem G9:∀(k:Nat) (ls:List (List UInt8)),(Bh k ls).length≤ls.length
 |k,[]=>qJ _
 |k,a::r=>by
  have ih:=G9 (k+1) r;unfold Bh;split<;>simp<;>omega
def Fx(r:Nat × Nat × List UInt8):List Value:=[.int .i64 r.1,.int .i64 r.2.1,C0 r.2.2]
def C2(rs:List (Nat × Nat × List UInt8)):List Value:=rs.flatMap Fx
theorem I9(rs:List (Nat × Nat × List UInt8))(r:Nat × Nat × List UInt8):C2 (rs++[r])=C2 rs++Fx r:=by simp[C2]
def Rk(W:World)(base:Nat)(e:TypeId)(v:Value)(rs:List (Nat × Nat × List UInt8)):Prop:=W.ownsRow base e 3 v rs.length (C2 rs)
theorem Fm{W:World}{b G:Nat}{e:TypeId}{size n:Nat}{v:Value}{xs:List Value}(h:W.ownsRow b e size v n xs)(hb:G≤b):W.ownsRow G e size v n xs:=by
 refine⟨h.1,?_⟩;rcases h.2 with h1|⟨g,cap,D,h1,h2,h3⟩
 ·exact .inl h1
 ·exact .inr ⟨g,cap,D,h1,qK hb h2,h3⟩
theorem As{G:Func}{p u:Tmp}{I:TypeId}(h:G.results=#[.tmp u,.cell p I])(tmps:Array Value)(P:Program)(w:World)(g:Nat)(v:Value)
  (hp:tmps.getD p undef=.pointer (some ⟨g,0,none⟩)) (hl:(loadVar I ⟨g,0,none⟩).run P w=.ok v w) :
  (results G tmps).run P w=.ok (.tuple #[tmps.getD u undef,v]) w:=by
 have D:tmps[p]?.getD undef=.pointer (some ⟨g,0,none⟩):=by simpa using hp
 simp[results,h,D,asAddr,Sem.run_bind,Result.andThen,hl]
theorem En{a:World}{B:Nat}{w:World}(h:Below B a w):Below B a w.drew:=⟨h.os,h.tape,h.output,h.size,h.block⟩
theorem Hi{a:World}{B n:Nat}{w:World}(h:Below B a w):Below B a (w.drewN n):=⟨h.os,h.tape,h.output,h.size,h.block⟩
theorem Mx{s:List UInt8}(h:(Bv s).1=0):Bv s=(0,0):=by
 unfold Bv at h ⊢;split at h
 ·simp at h
 ·rename_i h1
  rw[if_neg h1];split at h
  ·simp at h
  ·rename_i h2
   rw[if_neg h2];split at h
   ·simp at h
   ·rfl
theorem Sz(s:ByteArray)(w:World)(hs:s.size≤1048576)(hf:(Bv s.data.toList).1≠0) :
  Calls Tryz.prog 63 #[.string s] w fun e w'=>e=.returned (.tuple #[.slice none 0 0,D3 (Bv s.data.toList)])∧Below w.heap.size w w':=by
 obtain⟨R,I⟩:∃R,Bv s.data.toList=R:=⟨_,rfl⟩;rw[I]at hf ⊢;obtain⟨U,r2⟩:=R;have hne:(U != 0)=true:=by simpa using hf
 have Y:=Ab I;clear I hf;refine(callsIn_wide (n:=40)).1 ?_;refine callsIn_of_wp_marks Tryz.func63 rfl trivial ?_ rfl;simp only[Tryz.ntmps63,zD,qE,qP,Nat.reduceAdd,Nat.reduceSub,Array.replicate_succ,Array.replicate_zero,List.push_toArray,List.append_toArray,zK,zJ]
 gi_wp2_with (refine⟨trivial,?_⟩;gi_at_call 98;refine(callsIn_wide.2 (Kj s _ hs)).mono ?_;rintro e w' ⟨rfl,hb⟩;rw[Aa Y];have X:w'.heap[w.heap.size]?=some (.cells #[.int .i64 0,.int .i64 0] 29):=(hb.block _ (by simp)).trans (qB w _);have Q:Below w.heap.size w w':=((qV _ w).alloc (qJ _) _).trans (hb.mono (by simp));clear hb;unfold D3)
 obtain⟨N,D⟩:∃N,w'.alloc (.cells #[.int .i64 U,.int .i64 r2] 29)=N:=⟨_,rfl⟩;have G:N.heap[w.heap.size]?=some (.cells #[.int .i64 0,.int .i64 0] 29):=by rw[←D];exact(qD _ _ _ (qA.1 X).1).trans X
 have J:N.heap[w'.heap.size]?=some (.cells #[.int .i64 U,.int .i64 r2] 29):=by rw[←D];exact qB w' _
 have S:Below w.heap.size w N:=by rw[←D];exact Q.alloc Q.size _
 rw[D];have x0:=(A9 G).1;have x1:=(A9 G).2;have x2:=(A8 G).1;have Z:=(A8 G).2;have y0:=(A9 J).1;have y2:=(A8 J).1;clear D X
 gi_region
 gi_wp2
 refine⟨_,As rfl _ _ _ _ _ rfl (qX _ _ _ _ _ _ _ (Db (Da G _) _) Tryz.underlying29 rfl (by kernel_rfl)),rfl,?_⟩;exact En (Bq (Bq S 0 _ (qJ _)) 1 _ (qJ _))
theorem Nc(l:List UInt8)(w:World)(h:l.length≤1099511627776) :
  Calls Tryz.prog 100 #[.string ⟨l.toArray⟩] w fun e w'=>∃b:ByteArray,e=.returned (.string b)∧Hid (b.data.toList=C1 l)∧∃n,w'=w.drewN n:=
 (Qp ⟨l.toArray⟩ w h).mono fun e w' ⟨h1,h2⟩=>⟨_,h1,rfl,h2⟩
theorem Iw(b:ByteArray)(w:World) :
  Calls Tryz.prog 101 #[.string b,.string ⟨#[32]⟩] w fun e w'=>∃o:ByteArray,e=.returned (.string o)∧Hid (o.data.toList=Fo b.data.toList)∧w'=w:=
 (P8 b w).mono fun e w' ⟨h1,h2⟩=>⟨_,h1,rfl,h2⟩
theorem Do{W V:World}{row:Option Nat}{base:Nat}{e:TypeId}{size n:Nat}{v:Value}{xs:List Value}(h:W.ownsRow base e size v n xs)(D:W.grownBy V row)(hr:∀r,row=some r→r<base):V.ownsRow base e size v n xs:=by
 refine h.kept D ?_;cases hv:v.ownBlock with
 |none=>exact .inl rfl
 |some k=>
  refine .inr fun e=>?_;have:=(h.lt k hv).1;have:=hr k e.symm;omega
theorem Rg:(Tryz.prog.info? 107).map (fun i=>(i.zero,i.size,i.bytes))=some (some (.agg #[.int .i64 0,.int .i64 0,.string ⟨#[]⟩]),3,32):=by kernel_rfl
theorem Ov(W:World)(a b c:Value)(t:TypeId):∀j u,[a,b,c][j]?=some u→(W.alloc (.cells #[a,b,c] t)).cell? ((⟨W.heap.size,0,none⟩:Addr).add j)=some u:=by
 have key:∀(X:World) (g:Nat),X.heap[g]?=some (.cells #[a,b,c] t)→X.cell? ⟨g,0,none⟩=some a∧X.cell? ⟨g,1,none⟩=some b∧X.cell? ⟨g,2,none⟩=some c:=by
  intro X g h;simp[World.cell?,h]
 obtain⟨k0,D,G⟩:=key _ _ (qB W (.cells #[a,b,c] t));intro j u h
 match j,h with
 |0,h=>simp at h;subst h;exact k0
 |1,h=>simp at h;subst h;exact D
 |2,h=>simp at h;subst h;exact G
theorem Hr(l:List UInt8):(Fo l).length≤l.length:=(List.dropWhile_suffix _).length_le
theorem Hv(l:List UInt8):(C1 l).length≤l.length:=by
 unfold C1 Pl;rw[List.length_reverse];refine qK ((List.dropWhile_suffix _).length_le) ?_;rw[List.length_reverse,qZ];omega
theorem Jy{s:List UInt8}{i:Nat}{l:List UInt8}(h:(Bk s)[i]?=some l):Bh 0 ((Bk s).take (i+1))=Bh 0 ((Bk s).take i)++(Dv i l).toList:=by
 have hi:i<(Bk s).length:=(qI.1 h).1;rw[List.take_add_one,h,show (some l).toList=[l] from rfl,Gl,qZ,Nat.zero_add,Nat.min_eq_left (Nat.le_of_lt hi)]
theorem Qu{i:Nat}{l:List UInt8}{D ob:ByteArray}(I:D.data.toList=C1 l)(G:ob.data.toList=Fo D.data.toList)(hne:ob.data.toList≠[])(hl:l.length≤1048576) :
  ∃r,Dv i l=some r∧Fx r=[.int .i64 ((i:Int)+1),.int .i64 (wrap64 ((D.size:Int)-(ob.size:Int))),.string ob]:=by
 have h1:ob.size≤D.size:=by rw[zP,zP,G];exact Hr _
 have h2:D.size≤1048576:=by rw[zP,I];exact qK (Hv l) hl
 rw[I]at G;refine⟨(i+1,D.size-ob.size,ob.data.toList),?_,?_⟩
 ·rw[Dv,if_neg (by rw[←G];exact hne),zP D,zP ob,I,G]
 ·have h3:wrap64 ((D.size:Int)-(ob.size:Int))=((D.size-ob.size:Nat):Int):=by unfold wrap64;omega
  rw[h3];rfl
theorem R7{i:Nat}{l:List UInt8}{D ob:ByteArray}(I:D.data.toList=C1 l)(G:ob.data.toList=Fo D.data.toList)(hne:ob.data.toList=[]):Dv i l=none:=by
 rw[I]at G;rw[Dv,if_pos (by rw[←G];exact hne)]
theorem Kz{W:World}{B base:Nat}{e:TypeId}{size n:Nat}{v:Value}{xs:List Value}(h:W.ownsRow base e size v n xs)(hB:B<base):some B≠v.ownBlock:=fun e=>by have:=(h.lt B e.symm).1;omega
theorem Sl(s:ByteArray)(w:World)(hs:s.size≤1048576)(hf:(Bv s.data.toList).1=0) :
  Calls Tryz.prog 63 #[.string s] w fun e w'=>∃v,e=.returned (.tuple #[v,D3 (0,0)])∧Rk w' w.heap.size 107 v (Dz s.data.toList)∧Below w.heap.size w w':=by
 have HR:=Ab (Mx hf);clear hf;refine(callsIn_wide (n:=60)).1 ?_;refine callsIn_of_wp_marks Tryz.func63 rfl trivial ?_ rfl;simp only[Tryz.ntmps63,zD,qE,qP,Nat.reduceAdd,Nat.reduceSub,Array.replicate_succ,Array.replicate_zero,List.push_toArray,List.append_toArray,zK,zJ]
 gi_wp2_with (first
  |(refine⟨trivial,?_⟩;gi_at_call 98;refine(callsIn_wide.2 (Kj s _ hs)).mono ?_;rintro e w' ⟨rfl,hb⟩;rw[Aa HR];have hR:w'.heap[w.heap.size]?=some (.cells #[.int .i64 0,.int .i64 0] 29):=(hb.block _ (by simp)).trans (qB w _);have aD:Below w.heap.size w w':=((qV _ w).alloc (qJ _) _).trans (hb.mono (by simp));clear hb;unfold D3)
  | (refine⟨trivial,?_⟩;gi_at_call 99;refine(callsIn_wide.2 (Kn s _)).mono ?_;rintro e w4 ⟨rfl,rfl⟩))
 have aH:w.heap.size<w'.heap.size:=(qA.1 hR).1;obtain⟨b,hb⟩:∃b,w'.heap.size=b:=⟨_,rfl⟩;obtain⟨X,Q⟩:∃X,((w'.alloc (.cells #[.int .i64 0,.int .i64 0] 29)).alloc (.cells #[.slice none 0 0] 99)).alloc (.cells #[.string s] 9)=X:=⟨_,rfl⟩;have aZ:X.heap.size=b+3:=by rw[←Q,←hb];simp
 have b1:Boxed X (b+1) 99 (.slice none 0 0):=by
  rw[←Q,←hb];have:=Boxed.new (w'.alloc (.cells #[.int .i64 0,.int .i64 0] 29)) 99 (.slice none 0 0);rw[qF]at this;exact this.alloc _
 have b2:Boxed X (b+1+1) 9 (.string s):=by
  rw[←Q,←hb];have:=Boxed.new ((w'.alloc (.cells #[.int .i64 0,.int .i64 0] 29)).alloc (.cells #[.slice none 0 0] 99)) 9 (.string s);rw[qF,qF]at this;exact this
 have aN:X.heap[w.heap.size]?=some (.cells #[.int .i64 0,.int .i64 0] 29):=by
  rw[←Q];exact(qD _ _ _ (by simp;omega)).trans ((qD _ _ _ (by simp;omega)).trans ((qD _ _ _ aH).trans hR))
 have aK:Below w.heap.size w X:=by
  rw[←Q];exact((aD.alloc aD.size _).alloc (by simp;omega) _).alloc (by simp;omega) _
 rw[Q];rw[hb]at aH ⊢;clear Q hR aD hb;have aY:s.data.toList.length=s.size:=(zP s).symm
 refine Dy rfl (by omega) (gf:=131) (lb:=#[.pointer (some ⟨b+1+1,0,none⟩)]) rfl trivial (enters_of Tryz.func131 (by kernel_rfl) rfl)
  (encs:=Se) (Cz s.data.toList) (fun _=>False) 5 (fun r hr=>hr.elim)
  (fun V hg hV=>Gh (60-1) s _ _ V (b2.kept hg (by simp)).cell (fun r h1 h2=>.inr ⟨by omega,by omega⟩) (by omega) (by omega)) (fun _=>rfl)
  (fun i V=>V.heap[w.heap.size]?=some (.cells #[.int .i64 0,.int .i64 0] 29)∧Below w.heap.size w V∧∃v,Boxed V (b+1) 99 v∧Rk V (b+10) 107 v (Bh 0 ((Bk s.data.toList).take i)))
  (fun c i V=>False)
  (fun i V V' row h hg hr=>by
   obtain⟨h1,h2,v,h3,h4⟩:=h
   exact⟨(hg.block _ (qA.1 h1).1 (fun e=>by rcases hr _ e.symm with h3|h3;exact h3.elim;omega)).trans h1,h2.grown hg h2.size (fun k e=>by rcases hr k e with h3|h3;exact h3.elim;omega),v,
    h3.kept hg (fun e=>by rcases hr _ e.symm with h3|h3;exact h3.elim;omega),Do h4 hg (fun r e=>by rcases hr r e with h3|h3;exact h3.elim;omega)⟩)
  (fun c i V V' row h hg hr=>h)
  ⟨aN,aK,_,b1,World.ownsRow_nil _ _ _ _⟩
  (fun x=>{ tmps:=#[.string s,undef,.slice none 0 0,.pointer (some ⟨w.heap.size,0,none⟩),.pointer (some ⟨b,0,none⟩),.pointer (some ⟨b+1,0,none⟩),.int .i64 x.1,C0 x.2,undef,.string s,.agg #[.int .i64 0,.int .i64 0],.pointer (some ⟨b,0,none⟩),.int .i64 0,.bool false,undef,.string s,
   .func (.func 131) #[] #[.pointer (some ⟨b+1+1,0,none⟩)],.int .i64 x.1,C0 x.2,undef,undef,undef,undef,undef,undef,undef,undef,undef,undef,undef,undef,undef,undef,undef,undef,undef,undef,undef],defers:=[] }) ?assign ?body ?done ?stop
 case assign=>
  intro l2 x V K hK;unfold Se
  gi_wp2
  exact hK
 case body=>
  rintro l2 i x V hx ⟨J,Y,v,R,N⟩ hV;obtain⟨aJ,Z⟩:=G6 hx;have aI:x.2.length≤1048576:=qK (Gq (qN Z)) (by omega);obtain⟨n1,l⟩:=x;simp only at aJ Z aI;subst aJ;have HX:=Ab Z;clear hx Z;unfold C0;have bA:1≤60-1-1:=by omega
  have bB:(Bh 0 ((Bk s.data.toList).take i)).length≤1048576:=by
   refine qK (G9 _ _) ?_;rw[qZ];have h1:(Bk s.data.toList).length≤s.data.toList.length:=by unfold Bk;rw[qY];exact Ii _
   omega
  obtain⟨i0,hi,aT,aM,aQ⟩:=info_parts Rg;have aS:(Bh 0 ((Bk s.data.toList).take i)).length+1≤maxLen:=by unfold maxLen;omega
  have aR:((Bh 0 ((Bk s.data.toList).take i)).length+1)*32≤140737488355328:=by omega
  have aU:=R.cell;have bC:=R.frozen
  gi_wp2_with (first
   |(refine⟨trivial,?_⟩;gi_at_call 100;refine(CallsIn.inRound l2 (callsIn_wide.2 (Nc l _ (by omega)))).mono ?_;rintro e w3 ⟨tb,rfl,HT,nd,rfl⟩)
   |(refine⟨trivial,?_⟩;gi_at_call 101;refine(CallsIn.inRound l2 (callsIn_wide.2 (Iw tb _))).mono ?_;rintro e w3 ⟨ob,rfl,HO,rfl⟩)
   | (gi_at_builtin;refine wpListIn_append_own _ rfl _ _ 99 rfl (b+10) 107 i0 (.agg #[.int .i64 0,.int .i64 0,.string ⟨#[]⟩]) 3 32 Tryz.underlying99 hi aT aM aQ rfl (by decide) _ _ _ rfl (World.ownsRow.alloc (show (V.drewN nd).ownsRow (b+10) 107 3 v _ _ from N) _) ⟨V.heap.size,0,none⟩ 1 1 [.int .i64 ((i:Int)+1),.int .i64 (wrap64 ((tb.size:Int)-(ob.size:Int))),.string ob] rfl rfl (Ov _ _ _ _ _) (by intro u hu;simp at hu;rcases hu with rfl|rfl|rfl<;>rfl) aS aR (by rw[qF];show b+10≤V.heap.size+1;omega) ?_;intro v' w1 S I _;obtain⟨g',aX,rfl⟩:=ownsRow_succ S;have aC:=(Boxed.alloc (show Boxed (V.drewN nd) (b+1) 99 v from R) _).kept I (Kz N (by omega));have bD:=aC.cell;have bE:=aC.frozen))
  ·have hne:(!ob.toList.isEmpty)=true:=by assumption
   have U:ob.data.toList≠[]:=fun e=>by rw[Lib.toList_data,e]at hne;cases hne
   obtain⟨r,aO,aW⟩:=Qu (i:=i) (Aa HT) (Aa HO) U aI;have G:=Jy (Aa HX);rw[aO]at G;have aB:∀k,v.ownBlock=some k→b+10≤k:=fun k e=>(World.ownsRow.lt (show V.ownsRow (b+10) 107 3 v _ _ from N) k e).1;have hq:w.heap.size<V.heap.size:=(qA.1 J).1;have hA:=(Hi (n:=nd) Y).alloc Y.size (.cells #[.int .i64 ((i:Int)+1),.int .i64 (wrap64 ((tb.size:Int)-(ob.size:Int))),.string ob] 107);have hG:=hA.grown I hA.size (fun k e=>by have:=aB k e;omega);refine⟨(((show Bo _ V (V.drewN nd) from ⟨qJ _,fun _ _ _=>rfl⟩).trans (Bo.alloc _ (V.drewN nd) _)).trans (.of_grownBy I (fun r e hr=>by have:=aB r e;rcases hr with hr|hr;exact hr;omega))).trans (.of_grownBy (grownBy_setCell' w1 (b+1) _) (fun r e hr=>by cases e;rcases hr with hr|hr;exact hr;omega)),?_,Oj hG _ (by omega),_,aC.set _,?_⟩
   ·refine(qC _ _ _ _ (by show w.heap.size≠b+1;omega)).trans ((I.block _ (by rw[qF];show w.heap.size<V.heap.size+1;omega) (fun e=>by have:=aB _ e.symm;omega)).trans ((qD (V.drewN nd) _ _ hq).trans J))
   ·rw[G];unfold Rk;rw[show (some r).toList=[r] from rfl,I9,qH,aW];exact Do S (grownBy_setCell' w1 (b+1) _) (fun r e=>by cases e;omega)
  ·have hne:(!ob.toList.isEmpty)=false:=by assumption
   have U:ob.data.toList=[]:=by
    rw[Lib.toList_data]at hne;cases hd:ob.data.toList with
    |nil=>rfl
    |cons a t=>rw[hd]at hne;cases hne
   have G:=Jy (Aa HX);rw[R7 (Aa HT) (Aa HO) U,show (none:Option (Nat × Nat × List UInt8)).toList=[] from rfl,List.append_nil]at G;refine⟨⟨qJ _,fun _ _ _=>rfl⟩,J,Hi Y,v,R,?_⟩;rw[G];exact N
 case done=>
  rintro D V rfl ⟨J,Y,v,R,N⟩ hK;have aU:=R.cell;have x0:=(A9 J).1;have x1:=(A9 J).2;have x2:=(A8 J).1;have x3:=(A8 J).2
  gi_wp2
  have aG:=Ap V w.heap.size 0 (.int .i64 0);have aE:=Ap (V.setCell ⟨w.heap.size,0,none⟩ (.int .i64 0)) w.heap.size 1 (.int .i64 0)
  have aL:((V.setCell ⟨w.heap.size,0,none⟩ (.int .i64 0)).setCell ⟨w.heap.size,1,none⟩ (.int .i64 0)).heap[X.heap.size]?=some (.deferred (some [])):=
   (qC _ _ _ _ (by show X.heap.size≠w.heap.size;omega)).trans ((qC _ _ _ _ (by show X.heap.size≠w.heap.size;omega)).trans hK)
  refine⟨by simp,.inl ⟨_,_,rfl,run_takeDeferred aL,?_⟩⟩;refine⟨_,As rfl _ _ _ _ _ rfl (qX _ _ _ _ _ _ _ ((World.putObj_heap_other (by omega)).trans (Db (Da J _) _)) Tryz.underlying29 rfl (by kernel_rfl)),v,rfl,?_,Fj (Bq (Bq Y 0 _ (qJ _)) 1 _ (qJ _)) _ (by omega)⟩
  have aA:Bh 0 ((Bk s.data.toList).take (Cz s.data.toList).length)=Dz s.data.toList:=by
   rw[Dz,F3,List.take_of_length_le (qJ _)]
  rw[aA]at N;exact Fm (Do (Do (Do N aG (fun r e=>by cases e;omega)) aE (fun r e=>by cases e;omega)) (grownBy_putObj' _ X.heap.size _) (fun r e=>by cases e;omega)) (by omega)
 case stop=>
  rintro D c i V rfl hi h hK;exact h.elim
end Go.Proofs.YtnjokdbblmlhhaaGreatDoor
namespace Go.Proofs.YtnjokdbblmlhhaaGreatDoor
set_option maxHeartbeats 4000000
set_option maxRecDepth 100000
open Go.RowKit Go.Shelf
theorem E8{w:World}{B:Nat}{e:TypeId}{size n:Nat}{v:Value}{xs:List Value}(h:w.ownsRow B e size v n xs):∃G m cap,v=.slice G m cap:=by
 rcases h.2 with⟨hv,h0⟩|⟨g,cap,D,hv,_⟩
 ·exact⟨_,_,_,hv⟩
 ·exact⟨_,_,_,hv⟩
end Go.Proofs.YtnjokdbblmlhhaaGreatDoor
namespace Go.Proofs.YtnjokdbblmlhhaaGreatDoor
set_option maxHeartbeats 4000000
set_option maxRecDepth 100000
open Go.RowKit
def Y4(w:World)(B:Nat)(e:TypeId)(v:Value)(ls:List (List UInt8)):Prop:=w.ownsRow B e 1 v ls.length (ls.map C0)
theorem Pq:(Tryz.prog.info? 9).map (fun i=>(i.zero,i.size,i.bytes))=some (some (.string ⟨#[]⟩),1,16):=by kernel_rfl
theorem Xf{w:World}{B:Nat}{v:Value}{ls:List (List UInt8)}{D:Array Oper}{rest:List Oper}{o:Oper}{a:Act}{Q:Exit→Act→World→Prop}(I:o.guard=none)(s x:Operand)(t:TypeId)
  (ho:o.op=.call { callee:=.builtin .append,args:=#[s,x],argTypes:=#[t,t] }) (ht:Tryz.prog.underlying t=some (.slice 9))
  (hs:a.eval s=v) (G:Y4 w B 9 v ls) (b:ByteArray) (hx:a.eval x=.slice (some ⟨w.heap.size,0,none⟩) 1 1)
  (R:ls.length<10000000) (hB:B≤w.heap.size)
  (h:∀v' w',Y4 w' B 9 v' (ls++[b.data.toList])→(w.alloc (.cells #[.string b] 9)).grownBy w' v.ownBlock→wpList Tryz.prog D Q rest (a.put o.dst v') w') :
  wpList Tryz.prog D Q (o::rest) a (w.alloc (.cells #[.string b] 9)):=by
 obtain⟨i,hi,hz,J,N⟩:=info_parts Pq
 refine wpList_append_own_at (w:=w.alloc (.cells #[.string b] 9)) (P:=Tryz.prog) I s x t ho B 9 i (.string ⟨#[]⟩) 1 16 ht hi hz J N rfl (by decide) v ls.length (ls.map C0) hs (World.ownsRow.alloc G _)
  ⟨w.heap.size,0,none⟩ 1 1 [.string b] hx rfl (cell_one_new _ _ _) (by intro u hu;simp at hu;subst hu;rfl) (by unfold maxLen;omega) (by omega) (by simp;omega) ?_
 intro v' w' h2 h3 _ h5;refine h v' w' ?_ h3;unfold Y4;rw[List.map_append,qH];exact h2
theorem Xj{w w' D:World}{v:Value}{ls:List (List UInt8)}{o:Obj}(hb:Below D.heap.size D w)(G:Y4 w D.heap.size 9 v ls)(I:(w.alloc o).grownBy w' v.ownBlock):Below D.heap.size D w':=
 (hb.alloc hb.size o).grown I (by have:=hb.size;simp;omega) (fun k hk=>(World.ownsRow.lt G k hk).1)
theorem i10(c:UInt8):((c.toNat:Int)==10)=(c==10):=by revert c;apply D1;decide +kernel
theorem Zf(s:ByteArray)(k:Nat)(h:k<s.size):(s.extract k (k+1)).data.toList=[s[k]]:=by
 have hl:k<s.data.toList.length:=by rw[←zP];exact h
 rw[Lib.extract_data,qL hl,Nat.add_sub_cancel_left];rfl
theorem Wj(s:ByteArray)(k:Nat)(h:k<s.size):s.data.toList.drop k=s[k]::s.data.toList.drop (k+1):=by
 have hl:k<s.data.toList.length:=by rw[←zP];exact h
 rw[qL hl];rfl
theorem Xn(s:ByteArray)(w:World)(h:s.size≤4000000) :
  Calls Tryz.prog 112 #[.string s] w fun e w'=>∃v,e=.returned v∧Y4 w' w.heap.size 9 v (Bk s.data.toList)∧Below w.heap.size w w':=by
 rw[←Z4];go_enter Tryz.func112,Tryz.ntmps112
 go_wp2
 go_loopg [3,4,5] s.size (fun g s3 s4 s5 wx=>∃(k:Nat) (done:List (List UInt8)) (now:ByteArray),k+g=s.size∧s4=.string now∧s5=.int .i64 k∧now.size≤k∧done.length≤k∧Y4 wx w.heap.size 9 s3 done∧Below w.heap.size w wx ∧
  Hid (Wr [] s.data.toList=done++Wr now.data.toList (s.data.toList.drop k)))
 case atStart=>exact⟨0,[],⟨#[]⟩,by omega,rfl,rfl,qJ _,qJ _,World.ownsRow_nil _ _ _ _,qV _ _,Ab rfl⟩
 case round=>
  obtain⟨k,done,now,aD,rfl,rfl,aC,aB,D,hb,N⟩:=hrel;cases gk with
  |zero=>
   have e1:(s.size:Int)=(k:Int):=by omega
   have Q:s.data.toList.drop k=[]:=List.drop_eq_nil_of_le (by rw[←zP];omega);rw[Q,Wr]at N;clear Q;go_wp2_with (at_builtin;refine Xf rfl (.tmp 29) (.tmp 31) 23 rfl Tryz.underlying23 rfl D now rfl (by omega) hb.size ?_;intro v1 w1 G X;have U:=Xj hb D X)
   ·have hne:(!now.toList.isEmpty)=true:=by assumption
    have J:now.data.toList≠[]:=fun e=>by rw[Lib.toList_data,e]at hne;cases hne
    go_ret;refine⟨_,rfl,?_,U⟩;rw[Aa N,if_neg J];exact G
   ·have hne:(!now.toList.isEmpty)=false:=by assumption
    have J:now.data.toList=[]:=by
     rw[Lib.toList_data]at hne;cases hd:now.data.toList with
     |nil=>rfl
     |cons a t=>rw[hd]at hne;cases hne
    go_ret;refine⟨_,rfl,?_,hb⟩;rw[Aa N,if_pos J,List.append_nil];exact D
  |succ g'=>
   have S:k<s.size:=by omega
   have aA:(k:Int)<(s.size:Int):=by omega
   have aE:IntKind.i64.wrap ((k:Int)+1)=(k:Int)+1:=qG _ (by omega);rw[Wj s k S,Wr]at N;by_cases I:(s[k]==10)=true
   ·have Y:((s[k].toNat:Int)==10)=true:=by rw[i10];exact I
    rw[if_pos (by simpa using I)]at N;clear I;go_wp2_with (at_builtin;refine Xf rfl (.tmp 16) (.tmp 18) 23 rfl Tryz.underlying23 rfl D now rfl (by omega) hb.size ?_;intro v1 w1 G X;have U:=Xj hb D X)
    go_roundg g'
    case measure=>omega
    case rel=>exact⟨k+1,done++[now.data.toList],⟨#[]⟩,by omega,rfl,by go_num,Nat.zero_le _,by simp;omega,G,U,Ab (by rw[Aa N];simp)⟩
   ·have Y:((s[k].toNat:Int)==10)=false:=by rw[i10];simpa using I
    rw[if_neg (by simpa using I)]at N;clear I;have hex:(s.extract k (k+1)).size=1:=by rw[zP,Zf s k S];rfl
    have R:=Zf s k S;have HE:=Ab hex;have Z:=Ab R;clear hex R;go_wp2;go_roundg g'
    case measure=>omega
    case rel=>
     refine⟨k+1,done,now++s.extract k (k+1),by omega,rfl,by go_num,?_,by omega,D,hb,Ab ?_⟩
     ·rw[ByteArray.size_append,Aa HE];omega
     ·rw[Aa N]
      congr 2
      rw[ByteArray.data_append,Array.toList_append,Aa Z]
end Go.Proofs.YtnjokdbblmlhhaaGreatDoor
namespace Go.Proofs.YtnjokdbblmlhhaaGreatDoor
set_option maxHeartbeats 4000000
set_option maxRecDepth 100000
open Go.RowKit
def Wm(s:ByteArray)(q:Bool)(k:Nat):Nat:=B1 (Id s.data.toList k) q false (min k s.size) (s.data.toList.drop k)
theorem Zi(s:ByteArray):B1 true false false 0 s.data.toList=Wm s false 0:=by
 unfold Wm;rw[Nat.zero_min];rfl
theorem Ym(s:ByteArray)(q:Bool)(k:Nat)(h:s.size≤k):Wm s q k=s.size:=by
 unfold Wm;rw[List.drop_eq_nil_of_le (by rw[←zP];exact h),B1,Nat.min_eq_right h]
theorem Zy(s:ByteArray)(q:Bool)(k:Nat)(h:k<s.size):Wm s q k =
  if q&&s[k]==92 then Wm s q (k+2)
  else if s[k]==34 then Wm s (!q) (k+1)
  else if q||s[k] != 35 then Wm s q (k+1)
  else if Id s.data.toList k then k
  else Wm s q (k+1):=by
 have h1:Wm s q k=B1 (Id s.data.toList k) q false k (s.data.toList.drop k):=by unfold Wm;rw[Nat.min_eq_left (Nat.le_of_lt h)]
 have h2:∀D,B1 (Id s.data.toList (k+1)) D false (k+1) (s.data.toList.drop (k+1))=Wm s D (k+1):=fun D=>by unfold Wm;rw[Nat.min_eq_left h]
 rw[h1,Lu s k q false h,if_neg (by simp),h2,h2];by_cases h3:(q&&s[k]==92)=true
 ·rw[if_pos h3,if_pos h3];by_cases h4:k+1<s.size
  ·rw[Lu s (k+1) q true h4,if_pos rfl];unfold Wm;rw[Nat.min_eq_left h4]
  ·rw[Ym s q (k+2) (by omega),Ni s (k+1) _ _ _ (by omega)];omega
 ·rw[if_neg h3,if_neg h3]
theorem Xa(l:List UInt8):Pl (l++[32])=Pl l:=by simp[Pl]
theorem Xh(l:List UInt8)(c:UInt8)(h:c≠32):Pl (l++[c])=l++[c]:=by
 unfold Pl;rw[List.reverse_append,List.reverse_singleton,List.singleton_append,List.dropWhile_cons_of_neg (by simpa using h),List.reverse_cons,List.reverse_reverse]
theorem Wk(s:ByteArray)(k:Nat)(h:k<s.size):s.data.toList.take (k+1)=s.data.toList.take k++[s[k]]:=by
 rw[List.take_add_one,Lib.data_getElem? s k h];rfl
end Go.Proofs.YtnjokdbblmlhhaaGreatDoor
namespace Go.Proofs.YtnjokdbblmlhhaaGreatDoor
set_option maxHeartbeats 4000000
set_option maxRecDepth 100000
open Go.RowKit
theorem Yw(s:ByteArray)(w:World)(h:s.size≤4000000) :
  Calls Tryz.prog 113 #[.string s] w fun e w'=>e=.returned (.string ⟨(C1 s.data.toList).toArray⟩)∧w'=w:=by
 have aK:∀k,B1 true false false 0 s.data.toList=k→C1 s.data.toList=Pl (s.data.toList.take k):=fun k hk=>by rw[C1,hk]
 have aE:=Ab aK;clear aK;go_enter Tryz.func113,Tryz.ntmps113
 go_wp2
 go_loopg [3,4,5] (s.size+1) (fun g s3 s4 s5 wx=>∃(k:Nat) (q:Bool),k≤s.size+1∧s.size+1≤k+g∧s3=.bool q∧s4=.int .i64 s.size∧s5=.int .i64 k ∧
  Hid (B1 true false false 0 s.data.toList=Wm s q k)∧Hid (wx=w))
 case atStart=>exact⟨0,false,by omega,by omega,rfl,rfl,rfl,Ab (Zi s),Ab rfl⟩
 case round=>
  obtain⟨k,q,aU,aX,rfl,rfl,rfl,HP,HW⟩:=hrel;by_cases aL:k<s.size
  ·have aO:(k:Int)<(s.size:Int):=by omega
   have aY:IntKind.i64.wrap ((k:Int)+1)=(k:Int)+1:=qG _ (by omega);have aQ:IntKind.i64.wrap ((k:Int)+1+1)=(k:Int)+1+1:=qG _ (by omega);have aS:IntKind.i64.wrap ((k:Int)+2)=(k:Int)+2:=qG _ (by omega);have J:=Ab ((Aa HP).trans (Zy s q k aL));clear HP;cases q with
   |true=>
    by_cases Y:(s[k]==92)=true
    ·have aN:((s[k].toNat:Int)==92)=true:=by rw[Vn];exact Y
     rw[if_pos (by rw[Y];rfl)]at J;clear Y;go_wp2;go_roundg (gk-1)
     case measure=>omega
     case rel=>exact⟨k+2,true,by omega,by omega,rfl,rfl,by go_num,J,HW⟩
    ·have aB:(s[k]==92)=false:=by simpa using Y
     have aN:((s[k].toNat:Int)==92)=false:=by rw[Vn];exact aB
     rw[if_neg (by rw[aB];simp)]at J;clear Y aB;by_cases I:(s[k]==34)=true
     ·have aG:((s[k].toNat:Int)==34)=true:=by rw[Va];exact I
      rw[if_pos I]at J;clear I;go_wp2;go_roundg (gk-1)
      case measure=>omega
      case rel=>exact⟨k+1,false,by omega,by omega,rfl,rfl,by go_num,J,HW⟩
     ·have S:(s[k]==34)=false:=by simpa using I
      have aG:((s[k].toNat:Int)==34)=false:=by rw[Va];exact S
      rw[if_neg I,if_pos (by simp)]at J;clear I S;cases Q:(s[k]==35)
      ·have aH:((s[k].toNat:Int)==35)=false:=by rw[Vp];exact Q
       clear Q;go_wp2;go_roundg (gk-1)
       case measure=>omega
       case rel=>exact⟨k+1,true,by omega,by omega,rfl,rfl,by go_num,J,HW⟩
      ·have aH:((s[k].toNat:Int)==35)=true:=by rw[Vp];exact Q
       clear Q;go_wp2;go_roundg (gk-1)
       case measure=>omega
       case rel=>exact⟨k+1,true,by omega,by omega,rfl,rfl,by go_num,J,HW⟩
   |false=>
    rw[if_neg (by simp)]at J;by_cases I:(s[k]==34)=true
    ·have aG:((s[k].toNat:Int)==34)=true:=by rw[Va];exact I
     rw[if_pos I]at J;clear I;go_wp2;go_roundg (gk-1)
     case measure=>omega
     case rel=>exact⟨k+1,true,by omega,by omega,rfl,rfl,by go_num,J,HW⟩
    ·have S:(s[k]==34)=false:=by simpa using I
     have aG:((s[k].toNat:Int)==34)=false:=by rw[Va];exact S
     rw[if_neg I]at J;clear I S;by_cases Q:(s[k]==35)=true
     ·have aH:((s[k].toNat:Int)==35)=true:=by rw[Vp];exact Q
      rw[if_neg (by rw[bne,Q];simp)]at J;clear Q;cases k with
      |zero=>
       rw[if_pos (show Id s.data.toList 0=true from rfl)]at J;have HF:=Ab (Aa aE _ (Aa J));clear J;go_wp2
       go_loopg [4] 0 (fun g s4 wx=>∃U:Nat,U=g∧U≤s.size∧s4=.int .i64 U∧Hid (C1 s.data.toList=Pl (s.data.toList.take U))∧Hid (wx=w))
       case atStart=>exact⟨0,rfl,by omega,by go_num,HF,HW⟩
       case round=>
        obtain⟨U,hk2,aC,rfl,R,N⟩:=hrel;cases gk with
        |zero=>
         subst hk2;go_wp2;go_ret;refine⟨Im ?_,Aa N⟩;rw[Aa R];rfl
        |succ g2=>
         subst hk2;have G:g2<s.size:=by omega
         have aA:(g2:Int)<(s.size:Int):=by omega
         have aJ:(0:Int)<(g2:Int)+1:=by omega
         have aI:IntKind.i64.wrap (g2:Int)=(g2:Int):=qG _ (by omega);rw[Wk s g2 G]at R;by_cases D:(s[g2]==32)=true
         ·have X:((s[g2].toNat:Int)==32)=true:=by rw[i32];exact D
          rw[show s[g2]=32 from by simpa using D,Xa]at R;clear D;go_wp2;go_roundg g2
          case measure=>omega
          case rel=>exact⟨g2,rfl,by omega,by go_num,R,N⟩
         ·have X:((s[g2].toNat:Int)==32)=false:=by rw[i32];simpa using D
          rw[Xh _ _ (by simpa using D),←Wk s g2 G]at R;clear D;go_wp2;go_ret;refine⟨Im ?_,Aa N⟩;rw[Aa R,Lib.extract_eq,List.drop_zero,Nat.sub_zero]
      |succ k'=>
       have G:k'<s.size:=by omega
       have aA:(k':Int)<(s.size:Int):=by omega
       have aT:IntKind.i64.wrap (k':Int)=(k':Int):=qG _ (by omega);have aW:((k':Int)+1==0)=false:=by simp;omega
       have aD:=Ko s k' G;rw[aD]at J;by_cases D:(s[k']==32)=true
       ·have X:((s[k'].toNat:Int)==32)=true:=by rw[i32];exact D
        rw[if_pos D]at J;have HF:=Ab (Aa aE _ (Aa J));clear D J aD;go_wp2
        go_loopg [4] (k'+1) (fun g s4 wx=>∃U:Nat,U=g∧U≤s.size∧s4=.int .i64 U∧Hid (C1 s.data.toList=Pl (s.data.toList.take U))∧Hid (wx=w))
        case atStart=>exact⟨(k'+1),rfl,by omega,by go_num,HF,HW⟩
        case round=>
         obtain⟨U,hk2,aC,rfl,R,N⟩:=hrel;cases gk with
         |zero=>
          subst hk2;go_wp2;go_ret;refine⟨Im ?_,Aa N⟩;rw[Aa R];rfl
         |succ g2=>
          subst hk2;have G:g2<s.size:=by omega
          have aA:(g2:Int)<(s.size:Int):=by omega
          have aJ:(0:Int)<(g2:Int)+1:=by omega
          have aI:IntKind.i64.wrap (g2:Int)=(g2:Int):=qG _ (by omega);rw[Wk s g2 G]at R;by_cases D:(s[g2]==32)=true
          ·have X:((s[g2].toNat:Int)==32)=true:=by rw[i32];exact D
           rw[show s[g2]=32 from by simpa using D,Xa]at R;clear D;go_wp2;go_roundg g2
           case measure=>omega
           case rel=>exact⟨g2,rfl,by omega,by go_num,R,N⟩
          ·have X:((s[g2].toNat:Int)==32)=false:=by rw[i32];simpa using D
           rw[Xh _ _ (by simpa using D),←Wk s g2 G]at R;clear D;go_wp2;go_ret;refine⟨Im ?_,Aa N⟩;rw[Aa R,Lib.extract_eq,List.drop_zero,Nat.sub_zero]
       ·have X:((s[k'].toNat:Int)==32)=false:=by rw[i32];simpa using D
        rw[if_neg D]at J;clear D aD;go_wp2;go_roundg (gk-1)
        case measure=>omega
        case rel=>exact⟨k'+1+1,false,by omega,by omega,rfl,rfl,by go_num,J,HW⟩
     ·have Z:(s[k]==35)=false:=by simpa using Q
      have aH:((s[k].toNat:Int)==35)=false:=by rw[Vp];exact Z
      rw[if_pos (by rw[bne,Z];rfl)]at J;clear Q Z;go_wp2;go_roundg (gk-1)
      case measure=>omega
      case rel=>exact⟨k+1,false,by omega,by omega,rfl,rfl,by go_num,J,HW⟩
  ·have aM:s.size≤k:=by omega
   have aR:(s.size:Int)≤(k:Int):=by omega
   have HF:=Ab (Aa aE _ ((Aa HP).trans (Ym s q k aM)));clear HP;go_wp2
   go_loopg [4] s.size (fun g s4 wx=>∃U:Nat,U=g∧U≤s.size∧s4=.int .i64 U∧Hid (C1 s.data.toList=Pl (s.data.toList.take U))∧Hid (wx=w))
   case atStart=>exact⟨s.size,rfl,by omega,by go_num,HF,HW⟩
   case round=>
    obtain⟨U,hk2,aC,rfl,R,N⟩:=hrel;cases gk with
    |zero=>
     subst hk2;go_wp2;go_ret;refine⟨Im ?_,Aa N⟩;rw[Aa R];rfl
    |succ g2=>
     subst hk2;have G:g2<s.size:=by omega
     have aA:(g2:Int)<(s.size:Int):=by omega
     have aJ:(0:Int)<(g2:Int)+1:=by omega
     have aI:IntKind.i64.wrap (g2:Int)=(g2:Int):=qG _ (by omega);rw[Wk s g2 G]at R;by_cases D:(s[g2]==32)=true
     ·have X:((s[g2].toNat:Int)==32)=true:=by rw[i32];exact D
      rw[show s[g2]=32 from by simpa using D,Xa]at R;clear D;go_wp2;go_roundg g2
      case measure=>omega
      case rel=>exact⟨g2,rfl,by omega,by go_num,R,N⟩
     ·have X:((s[g2].toNat:Int)==32)=false:=by rw[i32];simpa using D
      rw[Xh _ _ (by simpa using D),←Wk s g2 G]at R;clear D;go_wp2;go_ret;refine⟨Im ?_,Aa N⟩;rw[Aa R,Lib.extract_eq,List.drop_zero,Nat.sub_zero]
end Go.Proofs.YtnjokdbblmlhhaaGreatDoor
namespace Go.Proofs.YtnjokdbblmlhhaaGreatDoor
set_option maxHeartbeats 4000000
set_option maxRecDepth 100000
open Go.RowKit
abbrev Qau(W:World)(base:Nat)(v:Value)(rs:List (Nat × Nat × List UInt8)):Prop:=Rk W base 122 v rs
theorem Zj:(Tryz.prog.info? 122).map (fun i=>(i.zero,i.size,i.bytes))=some (some (.agg #[.int .i64 0,.int .i64 0,.string ⟨#[]⟩]),3,32):=by kernel_rfl
theorem X8{w:World}{B:Nat}{e:TypeId}{v:Value}{ls:List (List UInt8)}(h:Y4 w B e v ls) :
  ∃G cap,v=.slice G ls.length cap∧∀i l,ls[i]?=some l→∃g,G=some ⟨g,0,none⟩∧B≤g∧g<w.heap.size∧w.cell? ⟨g,i,none⟩=some (C0 l):=by
 unfold Y4 at h;rcases Nat.eq_zero_or_pos ls.length with h0|h0
 ·rcases h.2 with⟨hv,_⟩|⟨g,cap,I,hv,_⟩
  ·exact⟨none,0,by rw[hv,h0],fun i l hl=>by rw[qU h0]at hl;simp at hl⟩
  ·exact⟨_,_,hv,fun i l hl=>by rw[qU h0]at hl;simp at hl⟩
 ·obtain⟨g,cap,hv,hb,D⟩:=h.form h0;refine⟨_,_,hv,fun i l hl=>⟨g,rfl,hb,D,?_⟩⟩;subst hv;rw[h.cellAt i (by have:=(qI.1 hl).1;omega),zF,hl];rfl
theorem Qbb(c:UInt8):((c.toNat:Int)==127)=(c==127):=by revert c;apply D1;decide +kernel
theorem Qbc(c:UInt8):(c<32)↔((c.toNat:Int)<32):=by revert c;apply D1;decide +kernel
theorem Zx(s:ByteArray)(w:World)(hs:s.size≤1048576)(hf:0≤P03.first s.data.toList) :
  Calls Tryz.prog 70 #[.string s] w fun e w'=>e=.returned (.tuple #[.slice none 0 0,D3 (Bv s.data.toList)])∧Below w.heap.size w w':=by
 have G:Bv s.data.toList=(9,(Lib.countByte (s.data.toList.take (P03.first s.data.toList).toNat) 10:Int)+1):=by
  rw[Bv,if_neg (by rw[←zP];omega),if_pos hf]
 rw[G];clear G;have I:=Si s.data.toList;rw[←zP]at I;generalize hp:P03.first s.data.toList=p at hf I ⊢
 have R:=Ab hp;clear hp;obtain⟨k,rfl⟩:∃k:Nat,p=k:=⟨p.toNat,by omega⟩;rw[zH];go_enter Tryz.func70,Tryz.ntmps70
 have N:(s.extract 0 k++⟨#[120]⟩).size≤4000000:=by
  rw[ByteArray.size_append,ByteArray.size_extract,Nat.min_eq_left (by omega)];show k-0+1≤4000000;omega
 have S:(Bk (s.extract 0 k++⟨#[120]⟩:ByteArray).data.toList).length=Lib.countByte (s.data.toList.take k) 10+1:=by
  rw[ByteArray.data_append,Array.toList_append,Lib.extract_data,Nat.sub_zero,List.drop_zero];exact Yk 120 (by decide) _
 go_wp2_with (first
  |(go_at_call 111;refine(Kr s _ (by omega)).mono ?_;rintro e w' ⟨rfl,rfl⟩;rw[Aa R])
  | (go_at_call 112;refine(Xn _ _ N).mono ?_;rintro e w' ⟨v,rfl,D,hb⟩;obtain⟨X,cap,rfl,_⟩:=X8 D;clear D;have G:w'.heap[w.heap.size]?=some (.cells #[.int .i64 0,.int .i64 0] 29):=(hb.block _ (by simp)).trans (qB w _);have Q:Below w.heap.size w w':=((qV _ w).alloc (qJ _) _).trans (hb.mono (by simp));have Y:=(A9 G).1;have x1:=(A9 G).2;have Z:=(A8 G).1;have U:=(A8 G).2))
 have J:=Db (Da G (.int .i64 9)) (.int .i64 ((Bk (List.take k s.data.toList++[120])).length:Int));refine qW (As rfl _ _ _ _ _ rfl (qX _ _ _ _ _ _ _ J Tryz.underlying29 rfl (by kernel_rfl))) rfl ⟨?_,Bq (Bq Q 0 _ (qJ _)) 1 _ (qJ _)⟩;rw[Yk 120 (by decide)];rfl
theorem Yg{w:World}{B:Nat}{T L:TypeId}{v:Value}{rs:List (Nat × Nat × List UInt8)}{I:Array Oper}{rest:List Oper}{o:Oper}{a:Act}{Q:Exit→Act→World→Prop}(J:o.guard=none)(s x:Operand)
  (ho:o.op=.call { callee:=.builtin .append,args:=#[s,x],argTypes:=#[L,L] }) (ht:Tryz.prog.underlying L=some (.slice T))
  (G:(Tryz.prog.info? T).map (fun i=>(i.zero,i.size,i.bytes))=some (some (.agg #[.int .i64 0,.int .i64 0,.string ⟨#[]⟩]),3,32))
  (hs:a.eval s=v) (D:Rk w B T v rs) (n c:Int) (b:ByteArray) (r:Nat × Nat × List UInt8) (hr:Fx r=[.int .i64 n,.int .i64 c,.string b]) (hx:a.eval x=.slice (some ⟨w.heap.size,0,none⟩) 1 1)
  (S:rs.length<10000000) (hB:B≤w.heap.size)
  (h:∀v' w',Rk w' B T v' (rs++[r])→(w.alloc (.cells #[.int .i64 n,.int .i64 c,.string b] T)).grownBy w' v.ownBlock→wpList Tryz.prog I Q rest (a.put o.dst v') w') :
  wpList Tryz.prog I Q (o::rest) a (w.alloc (.cells #[.int .i64 n,.int .i64 c,.string b] T)):=by
 obtain⟨i,hi,hz,N,R⟩:=info_parts G
 refine wpList_append_own_at (w:=w.alloc (.cells #[.int .i64 n,.int .i64 c,.string b] T)) (P:=Tryz.prog) J s x L ho B T i (.agg #[.int .i64 0,.int .i64 0,.string ⟨#[]⟩]) 3 32 ht hi hz N R rfl (by decide) v rs.length (C2 rs) hs (World.ownsRow.alloc D _)
  ⟨w.heap.size,0,none⟩ 1 1 [.int .i64 n,.int .i64 c,.string b] hx rfl (Ov _ _ _ _ _) (by intro u hu;simp at hu;rcases hu with rfl|rfl|rfl<;>rfl) (by unfold maxLen;omega) (by omega) (by simp;omega) ?_
 intro v' w' h2 h3 _ h5;refine h v' w' ?_ h3;unfold Rk;rw[I9,qH,hr];exact h2
theorem Gn{B:Nat}{a w:World}(h:Below B a w){g:Nat}(D:g<B)(j:Nat):w.cell? ⟨g,j,none⟩=a.cell? ⟨g,j,none⟩:=by
 unfold World.cell?;simp only[h.block g D]
theorem Yd(l:List UInt8)(k:Nat)(h:k<l.length):(l.take (k+1)).any oddB=((l.take k).any oddB||oddB l[k]):=by
 rw[List.take_add_one,qO h,List.any_append];simp
theorem Zu(l:List UInt8)(k:Nat)(h:k<l.length)(ho:oddB l[k]=true):l.any oddB=true:=List.any_eq_true.2 ⟨_,List.getElem_mem h,ho⟩
theorem Z8(l:List UInt8):∃b:ByteArray,C0 l=.string b∧b.data.toList=l:=⟨⟨l.toArray⟩,rfl,rfl⟩
theorem Xr(l:List UInt8)(k:Nat)(h:k<l.length)(hc:l[k]=32):Fo (l.drop k)=Fo (l.drop (k+1)):=by
 rw[qL h,hc];rfl
theorem X1(l:List UInt8)(k:Nat)(h:k<l.length)(hc:l[k]≠32):Fo (l.drop k)=l.drop k:=by
 rw[qL h];exact List.dropWhile_cons_of_neg (by simpa using hc)
theorem Y7(s:ByteArray)(k:Nat)(h:k<s.size)(h2:k<s.data.toList.length):s.data.toList[k]=s[k]:=rfl
theorem Qa8{i k:Nat}{l:List UInt8}{D:ByteArray}(I:D.data.toList=C1 l)(J:Fo (D.data.toList.drop k)=Fo D.data.toList)(hk:k<D.size)(G:D[k]≠32) :
  Dv i l=some (i+1,k,D.data.toList.drop k):=by
 have hl:k<D.data.toList.length:=by rw[←zP];exact hk
 have h1:Fo (C1 l)=D.data.toList.drop k:=by
  rw[←I,←J];exact X1 _ k hl (by rw[Y7 D k hk hl];exact G)
 rw[Dv,h1,if_neg (by rw[qL hl];exact List.cons_ne_nil _ _),←I,qQ]
 congr 3
 omega
theorem Zl{i:Nat}{l:List UInt8}{D:ByteArray}(I:D.data.toList=C1 l)(G:Fo (D.data.toList.drop D.size)=Fo D.data.toList):Dv i l=none:=by
 rw[Dv,if_pos];rw[←I,←G,List.drop_eq_nil_of_le (by rw[←zP];exact qJ _)];rfl
theorem Zh(s:ByteArray)(w:World)(hs:s.size≤1048576)(hf:P03.first s.data.toList<0) :
  Calls Tryz.prog 70 #[.string s] w fun e w'=>∃v,e=.returned (.tuple #[v,D3 (Bv s.data.toList)])∧Qau w' w.heap.size v (if (Bv s.data.toList).1=0 then Dz s.data.toList else [])∧Below w.heap.size w w':=by
 have bG:s.data.toList.length=s.size:=(zP s).symm;obtain⟨R,aK⟩:∃R,Bv s.data.toList=R:=⟨_,rfl⟩
 have aN:∀j,Ew s.data.toList=some j→R=(3,(j:Int)+1):=fun j hj=>by
  rw[←aK,Bv,if_neg (by omega),if_neg (by omega),hj]
 have aM:Ew s.data.toList=none→R=(0,0):=fun hj=>by
  rw[←aK,Bv,if_neg (by omega),if_neg (by omega),hj]
 rw[aK];obtain⟨RS,aU⟩:∃RS,(if R.1=0 then Dz s.data.toList else [])=RS:=⟨_,rfl⟩;rw[aU];have aW:=Ab aU;have bI:=Ab aN;have bX:=Ab aM;clear aN aM aK aU
 have bZ:(Bk s.data.toList).length≤1048576:=by
  have h1:(Bk s.data.toList).length≤s.data.toList.length:=by unfold Bk;rw[qY];exact Ii _
  omega
 have Q:∀l∈Bk s.data.toList,l.length≤1048576:=fun l hl=>qK (Gq hl) (by omega);have bL:=Ab Q;clear Q bG;generalize hp:P03.first s.data.toList=p at hf
 have HP:=Ab hp;clear hp;go_enter Tryz.func70,Tryz.ntmps70
 go_wp2_with (first
  |(go_at_call 111;refine(Kr s _ (by omega)).mono ?_;rintro e w' ⟨rfl,rfl⟩;rw[Aa HP])
  | (go_at_call 112;refine(Xn _ _ (by omega)).mono ?_;rintro e W ⟨v,rfl,D,hb⟩;obtain⟨ao,cap,rfl,aI⟩:=X8 D;clear D;have hR:W.heap[w.heap.size]?=some (.cells #[.int .i64 0,.int .i64 0] 29):=(hb.block _ (by simp)).trans (qB w _);have aY:Below w.heap.size w W:=((qV _ w).alloc (qJ _) _).trans (hb.mono (by simp));have HC:=Ab aI;clear aI hb))
 obtain⟨n,hn⟩:∃n,(Bk s.data.toList).length=n:=⟨_,rfl⟩;rw[hn]at bZ ⊢;have HN:=Ab hn;clear hn;have bM:w.heap.size<W.heap.size:=(qA.1 hR).1
 go_loopg [7,8] n (fun g s7 s8 wx=>∃i:Nat,i+g=n∧s7=.int .i64 i∧Hid (∀j l,j<i→(Bk s.data.toList)[j]?=some l→l.any oddB=false)∧W=wx)
 case atStart=>exact⟨0,by omega,by go_num,Ab (fun j l hj=>absurd hj (Nat.not_lt_zero _)),rfl⟩
 case round=>
  obtain⟨i,cD,rfl,HO,rfl⟩:=hrel;cases gk with
  |zero=>
   have e1:(n:Int)=(i:Int):=by omega
   have bV:=Ab (K7 (fun j l hj hl=>Aa HO j l (by rw[Aa HN]at hj;omega) hl));have aZ:=Ab (Aa bX (Aa bV));go_wp2
   go_loopg [6,9] n (fun g s6 s9 wx=>∃i:Nat,i+g=n∧s9=.int .i64 i∧Qau wx W.heap.size s6 (Bh 0 ((Bk s.data.toList).take i))∧Below W.heap.size W wx)
   case atStart=>exact⟨0,by omega,by go_num,World.ownsRow_nil _ _ _ _,qV _ _⟩
   case round=>
    obtain⟨N,cC,rfl,D,X⟩:=hrel;have aH:wr.heap[w.heap.size]?=some (.cells #[.int .i64 0,.int .i64 0] 29):=(X.block _ bM).trans hR;have bF:Below w.heap.size w wr:=aY.trans (X.mono (by omega));cases gk with
    |zero=>
     have e2:(n:Int)=(N:Int):=by omega
     have x0:=(A9 aH).1;have x1:=(A9 aH).2;have x2:=(A8 aH).1;have x3:=(A8 aH).2;go_wp2;refine qW (As rfl _ _ _ _ _ rfl (qX _ _ _ _ _ _ _ (Db (Da aH _) _) Tryz.underlying29 rfl (by kernel_rfl))) rfl ⟨u6,?_,?_,Bq (Bq bF 0 _ (qJ _)) 1 _ (qJ _)⟩
     ·rw[Aa aZ];rfl
     ·rw[←Aa aW,Aa aZ,if_pos rfl,Dz];have bA:(Bk s.data.toList).take N=Bk s.data.toList:=List.take_of_length_le (by rw[Aa HN];omega);rw[bA]at D;unfold Qau Rk at D ⊢;exact Fm (Do (Do D (Ap _ w.heap.size 0 _) (fun r e=>by cases e;omega)) (Ap _ w.heap.size 1 _) (fun r e=>by cases e;omega)) (by omega)
    |succ g2=>
     have Y:N<(Bk s.data.toList).length:=by rw[Aa HN];omega
     have S:(Bk s.data.toList)[N]?=some (Bk s.data.toList)[N]:=qO Y;have Q:=Aa bL _ (List.getElem_mem Y);generalize (Bk s.data.toList)[N]=l at S Q;obtain⟨g,rfl,aX,bK,aC⟩:=Aa HC N l S;obtain⟨lb,U,J⟩:=Z8 l;rw[U]at aC;have cG:=(Gn X bK N).trans aC;have bW:(N:Int)<(n:Int):=by omega
     have cB:IntKind.i64.wrap ((N:Int)+1)=(N:Int)+1:=qG _ (by omega);have bH:lb.size≤1048576:=by rw[zP,J];exact Q
     have aG:=Ab S;have aE:=Ab J;have aB:=Jy (Aa aG);have bB:=Ab aB
     have cF:(Bh 0 ((Bk s.data.toList).take N)).length≤1048576:=by
      refine qK (G9 _ _) ?_;rw[qZ];omega
     clear aB S U J aC Y;go_wp2_with (go_at_call 113;refine(Yw lb _ (by omega)).mono ?_;rintro e w5 ⟨rfl,rfl⟩;rw[Aa aE])
     obtain⟨I,aS⟩:∃I:ByteArray,(⟨(C1 l).toArray⟩:ByteArray)=I:=⟨_,rfl⟩;have aJ:I.data.toList=C1 l:=by rw[←aS]
     rw[aS];clear aS;have cE:I.size≤1048576:=by rw[zP,aJ];exact qK (Hv l) Q
     have bE:=Ab aJ;clear aJ
     go_loopg [11] I.size (fun g bU wx=>∃k:Nat,k+g=I.size∧bU=.int .i64 k∧Hid (Fo (I.data.toList.drop k)=Fo I.data.toList)∧w5=wx)
     case atStart=>exact⟨0,by omega,by go_num,Ab rfl,rfl⟩
     case round=>
      obtain⟨k,bQ,rfl,HT,rfl⟩:=hrel;cases gk with
      |zero=>
       have e3:(I.size:Int)=(k:Int):=by omega
       have e4:I.size=k:=by omega
       subst e4;have bC:=Zl (i:=N) (Aa bE) (Aa HT);have G:=Aa bB;rw[bC,show (none:Option (Nat × Nat × List UInt8)).toList=[] from rfl,List.append_nil]at G;rw[←G]at D;clear G bC;go_wp2;go_roundg g2
       case measure=>omega
       case rel=>exact⟨N+1,by omega,by go_num,D,X⟩
      |succ g3=>
       have hk:k<I.size:=by omega
       have hk2:(k:Int)<(I.size:Int):=by omega
       have aA:k<I.data.toList.length:=by rw[←zP];exact hk
       have cA:IntKind.i64.wrap ((k:Int)+1)=(k:Int)+1:=qG _ (by omega);by_cases Z:I[k]=32
       ·have bS:((I[k].toNat:Int)==32)=true:=by rw[i32,Z];rfl
        have bR:=Ab ((Xr _ k aA (by rw[Y7 I k hk aA];exact Z)).symm.trans (Aa HT));clear Z;go_wp2;go_roundg g3
        case measure=>omega
        case rel=>exact⟨k+1,by omega,by go_num,bR,rfl⟩
       ·have bS:((I[k].toNat:Int)==32)=false:=by rw[i32];simpa using Z
        have aL:=Qa8 (i:=N) (Aa bE) (Aa HT) hk Z;have G:=Aa bB;rw[aL,show (some (N+1,k,I.data.toList.drop k)).toList=[(N+1,k,I.data.toList.drop k)] from rfl]at G;have bP:=Ab G
        have bJ:Fx (N+1,k,I.data.toList.drop k)=[.int .i64 ((N:Int)+1),.int .i64 (k:Int),.string (I.extract k I.size)]:=by
         show [Value.int .i64 (((N+1:Nat)):Int),Value.int .i64 (k:Int),C0 (I.data.toList.drop k)]=_;rw[show C0 (I.data.toList.drop k)=.string (I.extract k I.size) from ?_,Int.natCast_add]
         ·rfl
         ·unfold C0
          congr 1
          rw[Lib.extract_eq,List.take_of_length_le (by rw[qQ,←zP];exact qJ _)]
        have bT:=Ab bJ;clear Z aL G bJ;go_wp2_with (at_builtin;refine Yg rfl (.tmp 90) (.tmp 98) (L:=118) rfl Tryz.underlying118 Zj rfl D _ _ _ (N+1,k,I.data.toList.drop k) (Aa bT) rfl (by omega) X.size ?_;intro v1 w1 aR aX)
        have bN:Below W.heap.size W w1:=(X.alloc X.size _).grown aX (by have:=X.size;simp;omega) (fun k hk=>(World.ownsRow.lt D k hk).1);go_roundg g2
        case measure=>omega
        case rel=>
         refine⟨N+1,by omega,by go_num,?_,bN⟩;rw[Aa bP];exact aR
  |succ g'=>
   have Y:i<(Bk s.data.toList).length:=by rw[Aa HN];omega
   have S:(Bk s.data.toList)[i]?=some (Bk s.data.toList)[i]:=qO Y;have Q:=Aa bL _ (List.getElem_mem Y);generalize (Bk s.data.toList)[i]=l at S Q;obtain⟨g,rfl,aX,bK,aC⟩:=Aa HC i l S;obtain⟨lb,U,J⟩:=Z8 l;rw[U]at aC;have bW:(i:Int)<(n:Int):=by omega
   have cB:IntKind.i64.wrap ((i:Int)+1)=(i:Int)+1:=qG _ (by omega);have bH:lb.size≤1048576:=by rw[zP,J];exact Q
   have aG:=Ab S;have aE:=Ab J;clear S U J Y;go_wp2
   go_loopg [8] lb.size (fun g s8 wx=>∃k:Nat,k+g=lb.size∧s8=.int .i64 k∧Hid ((l.take k).any oddB=false)∧W=wx)
   case atStart=>exact⟨0,by omega,by go_num,Ab rfl,rfl⟩
   case round=>
    obtain⟨k,bQ,rfl,HA,rfl⟩:=hrel;cases gk with
    |zero=>
     have e3:(lb.size:Int)=(k:Int):=by omega
     have bY:=Ab (show ∀j l,j<i+1→(Bk s.data.toList)[j]?=some l→l.any oddB=false from fun j l' hj aT=>by
      rcases Nat.lt_or_ge j i with h4|h4
      ·exact Aa HO j l' h4 aT
      ·obtain rfl:j=i:=by omega
       rw[Aa aG]at aT;cases aT;have:=Aa HA;rw[List.take_of_length_le (by rw[←Aa aE,←zP];omega)]at this
       exact this)
     go_wp2;go_roundg g'
     case measure=>omega
     case rel=>exact⟨i+1,by omega,by go_num,bY,rfl⟩
    |succ g3=>
     have hk:k<lb.size:=by omega
     have hk2:(k:Int)<(lb.size:Int):=by omega
     have aA:k<l.length:=by rw[←Aa aE,←zP];exact hk
     have aQ:l[k]=lb[k]:=by
      have h1:lb.data.toList[k]?=some lb[k]:=Lib.data_getElem? lb k hk;rw[Aa aE,qO aA]at h1;exact Option.some.inj h1
     have cA:IntKind.i64.wrap ((k:Int)+1)=(k:Int)+1:=qG _ (by omega);have aB:=Yd l k aA;rw[Aa HA,aQ,Bool.false_or]at aB;have aO:oddB lb[k]=true→l.any oddB=true:=fun ho=>Zu l k aA (by rw[aQ];exact ho);have HS:=Ab aB;have bD:=Ab aO;clear aB aO aQ;by_cases c1:lb[k]<32
     ·have j1:(lb[k].toNat:Int)<32:=(Qbc _).1 c1;have aD:=Ab (Aa bI i (Ks (Aa HO) (Aa aG) (Aa bD (by simp[oddB,c1]))));clear c1;have x0:=(A9 hR).1;have x1:=(A9 hR).2;have x2:=(A8 hR).1;have x3:=(A8 hR).2;go_wp2;refine qW (As rfl _ _ _ _ _ rfl (qX _ _ _ _ _ _ _ (Db (Da hR _) _) Tryz.underlying29 rfl (by kernel_rfl))) rfl ⟨.slice none 0 0,?_,?_,Bq (Bq aY 0 _ (qJ _)) 1 _ (qJ _)⟩
      ·rw[Aa aD];rfl
      ·rw[←Aa aW,Aa aD,if_neg (show ¬(3:Int)=0 by decide)];exact World.ownsRow_nil _ _ _ _
     ·have j1:32≤(lb[k].toNat:Int):=by have:=mt (Qbc lb[k]).2 c1;omega
      by_cases c2:lb[k]=127
      ·have j2:((lb[k].toNat:Int)==127)=true:=by rw[Qbb,c2];rfl
       have aD:=Ab (Aa bI i (Ks (Aa HO) (Aa aG) (Aa bD (by simp[oddB,c2]))));clear c1 c2;have x0:=(A9 hR).1;have x1:=(A9 hR).2;have x2:=(A8 hR).1;have x3:=(A8 hR).2;go_wp2;refine qW (As rfl _ _ _ _ _ rfl (qX _ _ _ _ _ _ _ (Db (Da hR _) _) Tryz.underlying29 rfl (by kernel_rfl))) rfl ⟨.slice none 0 0,?_,?_,Bq (Bq aY 0 _ (qJ _)) 1 _ (qJ _)⟩
       ·rw[Aa aD];rfl
       ·rw[←Aa aW,Aa aD,if_neg (show ¬(3:Int)=0 by decide)];exact World.ownsRow_nil _ _ _ _
      ·have j2:((lb[k].toNat:Int)==127)=false:=by rw[Qbb];simpa using c2
       have bO:=Ab ((Aa HS).trans (show oddB lb[k]=false by simp[oddB,c1,c2]));clear c1 c2;go_wp2;go_roundg g3
       case measure=>omega
       case rel=>exact⟨k+1,by omega,by go_num,bO,rfl⟩
theorem Ya(s:ByteArray)(w:World)(hs:s.size≤1048576) :
  Calls Tryz.prog 70 #[.string s] w fun e w'=>∃v,e=.returned (.tuple #[v,D3 (Bv s.data.toList)])∧Qau w' w.heap.size v (if (Bv s.data.toList).1=0 then Dz s.data.toList else [])∧Below w.heap.size w w':=by
 by_cases hf:0≤P03.first s.data.toList
 ·refine(Zx s w hs hf).mono ?_;rintro e w' ⟨rfl,hb⟩;refine⟨_,rfl,?_,hb⟩;have:(Bv s.data.toList).1≠0:=by rw[Bv,if_neg (by rw[←zP];omega),if_pos hf];simp
  rw[if_neg this];exact World.ownsRow_nil _ _ _ _
 ·exact Zh s w hs (by omega)
end Go.Proofs.YtnjokdbblmlhhaaGreatDoor
namespace Go.Proofs.YtnjokdbblmlhhaaGreatDoor
set_option maxHeartbeats 4000000
set_option maxRecDepth 100000
open Go.RowKit Go.Shelf
def Vu(w:World)(B:Nat)(v:Value)(rs:List (Int × Int × ByteArray)):Prop:=
 ∃D cap,v=.slice D rs.length cap∧∀i r,rs[i]?=some r→∃g o,D=some ⟨g,o,none⟩∧g<B∧w.cell? ⟨g,o+i*3,none⟩=some (.int .i64 r.1)∧w.cell? ⟨g,o+i*3+1,none⟩=some (.int .i64 r.2.1)∧w.cell? ⟨g,o+i*3+2,none⟩=some (.string r.2.2)
theorem Wd{X:World}{g:Nat}{a b c:Value}{t:TypeId}(h:X.heap[g]?=some (.cells #[a,b,c] t)):X.cell? ⟨g,0,none⟩=some a∧X.cell? ⟨g,1,none⟩=some b∧X.cell? ⟨g,2,none⟩=some c:=by simp[World.cell?,h]
end Go.Proofs.YtnjokdbblmlhhaaGreatDoor
namespace Go.Proofs.YtnjokdbblmlhhaaGreatDoor
set_option maxHeartbeats 4000000
set_option maxRecDepth 100000
open Go.RowKit Go.Shelf
end Go.Proofs.YtnjokdbblmlhhaaGreatDoor
namespace Go.Proofs.YtnjokdbblmlhhaaGreatDoor
set_option maxHeartbeats 4000000
set_option maxRecDepth 100000
open Go.RowKit Go.Shelf
def Sc(r:Nat × Nat × List UInt8):Int × Int × ByteArray:=(r.1,r.2.1,⟨r.2.2.toArray⟩)
theorem Gi:∀(rs:List (Nat × Nat × List UInt8)) (i:Nat) (r:Nat × Nat × List UInt8),rs[i]?=some r→(C2 rs)[i*3]?=some (.int .i64 r.1)∧(C2 rs)[i*3+1]?=some (.int .i64 r.2.1)∧(C2 rs)[i*3+2]?=some (C0 r.2.2)
 | [],i,r,h=>by simp at h
 |a::rs,0,r,h=>by
  simp at h;subst h;exact⟨rfl,rfl,rfl⟩
 |a::rs,i+1,r,h=>by
  have ih:=Gi rs i r (by simpa using h);have e:C2 (a::rs)=Fx a++C2 rs:=rfl;have D:(Fx a).length=3:=rfl;rw[e,zA (by omega),zA (by omega),zA (by omega),D];rw[show (i+1)*3-3=i*3 from by omega,show (i+1)*3+1-3=i*3+1 from by omega,show (i+1)*3+2-3=i*3+2 from by omega];exact ih
theorem Nv{w:World}{B:Nat}{e:TypeId}{v:Value}{rs:List (Nat × Nat × List UInt8)}(h:Rk w B e v rs):Vu w w.heap.size v (rs.map Sc):=by
 unfold Rk at h;rcases Nat.eq_zero_or_pos rs.length with h0|h0
 ·have D:=qU h0;subst D;obtain⟨N,m,cap,hv⟩:=E8 h;rcases h.2 with⟨hv,_⟩|⟨g,cap,I,hv,_⟩
  ·exact⟨_,_,hv,fun i r hr=>by simp at hr⟩
  ·exact⟨_,_,hv,fun i r hr=>by simp at hr⟩
 ·obtain⟨g,cap,hv,hb,G⟩:=h.form h0;subst hv;refine⟨_,_,by rw[qY],fun i r hr=>⟨g,0,rfl,G,?_⟩⟩;rw[zF,Option.map_eq_some_iff]at hr;obtain⟨a,ha,rfl⟩:=hr;obtain⟨J,c1,c2⟩:=Gi rs i a ha;have hi:i<rs.length:=(qI.1 ha).1;rw[Nat.zero_add,h.cellAt _ (by omega),h.cellAt _ (by omega),h.cellAt _ (by omega)];exact⟨J,c1,c2⟩
end Go.Proofs.YtnjokdbblmlhhaaGreatDoor
namespace Go.Proofs.YtnjokdbblmlhhaaGreatDoor
set_option maxHeartbeats 4000000
set_option maxRecDepth 100000
open Go.RowKit
def Y5(w:World)(x:List UInt8 × Int)(e:Ending)(w':World):Prop:=∃b:ByteArray,e=.returned (.tuple #[.string b,.int .i64 x.2])∧b.data.toList=x.1∧Below w.heap.size w w'
theorem Yb(s:ByteArray)(w:World)(h:s.size≤100000)(cI:2≤s.size)(hq:s[0].toNat=34)(bO:P18.plain s.data.toList=false)(hcut:P18.cut s.data.toList=(s.size,0)) :
  Calls Tryz.prog 117 #[.string s] w (Y5 w (P18.read s.data.toList)):=by
 have hm:s.size≤maxLen:=by unfold maxLen;omega
 have cQ:(0:Int)<(s.size:Int):=by omega
 have cO:((s[0].toNat:Int) != 34)=false:=by simp;omega
 have aW:=zP s;have g0:s.data.toList.getD 0 0=s[0]:=by rw[List.getD_eq_getElem?_getD,Lib.data_getElem? s 0 (by omega)];rfl
 have aU:Lib.hasPrefix s.data.toList [34]=true:=(P18.prefix_iff _).2 ⟨by omega,by rw[g0];exact hq⟩
 have bK:P18.cutQ 1 false (s.data.toList.drop 1)=some s.size:=by
  have h1:=R18.cut_quoted aU;rw[hcut,R18.cutQ_0 (by omega)]at h1;cases hc:P18.cutQ 1 false (s.data.toList.drop 1)with
  |none=>rw[hc]at h1;simp at h1
  |some n=>rw[hc]at h1;simp at h1;rw[h1]
 have aJ:P18.read s.data.toList=match P18.within (R18.body s.data.toList)with|none=>([],3)|some b=>P18.chk b:=by
  rw[P18.read,hcut,aW];cases hw:P18.within (R18.body s.data.toList)with
  |none=>exact P18.readF_none (by rw[g0];exact hq) hw
  |some b=>exact P18.readF_some (by rw[g0];exact hq) hw
 have aZ:=Tn s w hm;rw[bO]at aZ;have aY:=Ww s w h;rw[hcut]at aY;have bR:=Ab aZ;have bU:=Ab aY;have HR:=Ab aJ;have HQ:=Ab bK;have HZ:=Ab aW;clear aJ bK aZ aY aU g0 hq hcut bO aW;go_enter Tryz.func117,Tryz.ntmps117
 go_wp2_with (first
  |(go_at_call 121;refine(Aa bR).mono ?_;rintro e w' ⟨rfl,rfl⟩)
  | (go_at_call 116;refine(Aa bU).mono ?_;rintro e w' ⟨rfl,rfl⟩))
 go_loopg [6,7] s.size (fun g s6 s7 wx=>∃(k:Nat) (out:List UInt8),1≤k∧k+1≤s.size∧s.size≤k+g∧s7=.int .i64 (k:Int)∧Hid (P18.within (R18.body s.data.toList)=(P18.within ((R18.body s.data.toList).drop (k-1))).map (out ++ ·))∧Hid (P18.cutQ k false (s.data.toList.drop k)=some s.size)∧out.length≤k∧Eb wx w'.heap.size 5 s6 out∧Below w'.heap.size w' wx)
 case atStart=>exact⟨1,[],by omega,by omega,by omega,rfl,by show _=_;simp,HQ,by simp,Eb.nil _ _ _,qV _ _⟩
 case round=>
  obtain⟨k,out,cA,hk,cU,rfl,HP,HK,cS,N,hb⟩:=hrel;by_cases bZ:k+1<s.size
  ·have cX:(k:Int)<(s.size:Int)-1:=by omega
   have cE:(k:Int)<(s.size:Int):=by omega
   have cL:k<s.size:=by omega
   have aR:k<s.data.toList.length:=by rw[←Aa HZ];omega
   have e0:s.data.toList[k]'aR=s[k]:=rfl;have bL:=R18.body_drop cA bZ;have HB:=Ab bL;have cK:=s[k].toNat_lt;clear bL;by_cases R:(s[k].toNat:Int)<32∨((s[k].toNat:Int)==127)=true
   ·have D:P18.read s.data.toList=([],3):=by rw[Aa HR,Aa HP,Aa HB,R18.within_ctrl R];rfl
    have HF:=Ab D;clear D e0;rcases R with R|R;all_goals go_wp2_with fail
    all_goals go_ret2
    all_goals rw[Aa HF]
    all_goals exact⟨_,rfl,rfl,hb⟩
   ·have cV:32≤(s[k].toNat:Int):=by omega
    have cF:((s[k].toNat:Int)==127)=false:=by
     rw[←Bool.not_eq_true];exact fun h=>R (.inr h)
    have bJ:=Ab R;clear R;by_cases aH:s[k].toNat=92
    ·have bG:((s[k].toNat:Int) != 92)=false:=by simp;omega
     have aC:=(R18.cutQ_esc aR (by omega) (by rw[e0];exact aH)).symm.trans (Aa HK)
     have cM:k+2<s.size:=by
      rcases Nat.lt_or_ge (k+2) s.size with h1|h1
      ·exact h1
      ·rw[R18.cutQ_past (by rw[←Aa HZ];omega)]at aC;cases aC
     have cD:(k:Int)+1<(s.size:Int):=by omega
     have cZ:k+1<s.size:=by omega
     have aK:=R18.body_drop (s:=s) (k:=k+1) (by omega) (by omega);rw[zL]at aK;have X:=Ab aK;have aB:=Ab aC;have Y:=Ab aH;have cW:=s[k+1].toNat_lt;clear aK aC aH e0;by_cases Z:s[k+1].toNat=34
     ·have I:=show P18.behind (s[k+1]::(R18.body s.data.toList).drop (k+1))=(((s[k+1].toNat:Nat):Int),((1:Nat):Int)) from by rw[show s[k+1]=34 from UInt8.toNat_inj.1 Z];exact R18.behind_34 _
      have J:=R18.within_esc (c:=s[k]) (Aa Y) I (by omega);rw[List.drop_one,List.tail_cons]at J;have HS:=Ab J;have aN:((s[k+1].toNat:Int)==34)=true:=by simp;omega
      clear I J Z;go_wp2_with (first|(at_builtin;refine Ea rfl (.tmp 63) (.tmp 67) 67 rfl Tryz.underlying67 E9 rfl N _ (by omega) (by omega) rfl (by omega) hb.size ?_;intro v1 w1 G S _;have Q:=Er hb N S))
      go_roundg (gk-2)
      case measure=>omega
      case rel=>
       refine⟨k+2,out++[UInt8.ofNat ((s[k+1].toNat:Int):Int).toNat],by omega,by omega,by omega,by go_num,?_,aB,by simp;omega,G,Q⟩;show _=_;rw[Aa HP,Aa HB,Aa X,Aa HS,R18.map_map,show k+2-1=k+1 from by omega];simp
     ·by_cases aD:s[k+1].toNat=92
      ·have I:=show P18.behind (s[k+1]::(R18.body s.data.toList).drop (k+1))=(((s[k+1].toNat:Nat):Int),((1:Nat):Int)) from by rw[show s[k+1]=92 from UInt8.toNat_inj.1 aD];exact R18.behind_92 _
       have J:=R18.within_esc (c:=s[k]) (Aa Y) I (by omega);rw[List.drop_one,List.tail_cons]at J;have HS:=Ab J;have aN:((s[k+1].toNat:Int)==34)=false:=by simp;omega
       have aQ:((s[k+1].toNat:Int)==92)=true:=by simp;omega
       clear I J Z aD;go_wp2_with (first|(at_builtin;refine Ea rfl (.tmp 63) (.tmp 67) 67 rfl Tryz.underlying67 E9 rfl N _ (by omega) (by omega) rfl (by omega) hb.size ?_;intro v1 w1 G S _;have Q:=Er hb N S))
       go_roundg (gk-2)
       case measure=>omega
       case rel=>
        refine⟨k+2,out++[UInt8.ofNat ((s[k+1].toNat:Int):Int).toNat],by omega,by omega,by omega,by go_num,?_,aB,by simp;omega,G,Q⟩;show _=_;rw[Aa HP,Aa HB,Aa X,Aa HS,R18.map_map,show k+2-1=k+1 from by omega];simp
      ·by_cases U:s[k+1].toNat=110
       ·have I:=show P18.behind (s[k+1]::(R18.body s.data.toList).drop (k+1))=(((10:Nat):Int),((1:Nat):Int)) from by rw[show s[k+1]=110 from UInt8.toNat_inj.1 U];exact R18.behind_110 _
        have J:=R18.within_esc (c:=s[k]) (Aa Y) I (by omega);rw[List.drop_one,List.tail_cons]at J;have HS:=Ab J;have aN:((s[k+1].toNat:Int)==34)=false:=by simp;omega
        have aQ:((s[k+1].toNat:Int)==92)=false:=by simp;omega
        have f110:((s[k+1].toNat:Int)==110)=true:=by simp;omega
        clear I J Z aD U;go_wp2_with (first|(at_builtin;refine Ea rfl (.tmp 71) (.tmp 72) 67 rfl Tryz.underlying67 E9 rfl N 10 (by omega) (by omega) rfl (by omega) hb.size ?_;intro v1 w1 G S _;have Q:=Er hb N S))
        go_roundg (gk-2)
        case measure=>omega
        case rel=>
         refine⟨k+2,out++[UInt8.ofNat (10:Int).toNat],by omega,by omega,by omega,by go_num,?_,aB,by simp;omega,G,Q⟩;show _=_;rw[Aa HP,Aa HB,Aa X,Aa HS,R18.map_map,show k+2-1=k+1 from by omega];rfl
       ·by_cases aA:s[k+1].toNat=116
        ·have I:=show P18.behind (s[k+1]::(R18.body s.data.toList).drop (k+1))=(((9:Nat):Int),((1:Nat):Int)) from by rw[show s[k+1]=116 from UInt8.toNat_inj.1 aA];exact R18.behind_116 _
         have J:=R18.within_esc (c:=s[k]) (Aa Y) I (by omega);rw[List.drop_one,List.tail_cons]at J;have HS:=Ab J;have aN:((s[k+1].toNat:Int)==34)=false:=by simp;omega
         have aQ:((s[k+1].toNat:Int)==92)=false:=by simp;omega
         have f110:((s[k+1].toNat:Int)==110)=false:=by simp;omega
         have aT:((s[k+1].toNat:Int)==116)=true:=by simp;omega
         clear I J Z aD U aA;go_wp2_with (first|(at_builtin;refine Ea rfl (.tmp 76) (.tmp 77) 67 rfl Tryz.underlying67 E9 rfl N 9 (by omega) (by omega) rfl (by omega) hb.size ?_;intro v1 w1 G S _;have Q:=Er hb N S))
         go_roundg (gk-2)
         case measure=>omega
         case rel=>
          refine⟨k+2,out++[UInt8.ofNat (9:Int).toNat],by omega,by omega,by omega,by go_num,?_,aB,by simp;omega,G,Q⟩;show _=_;rw[Aa HP,Aa HB,Aa X,Aa HS,R18.map_map,show k+2-1=k+1 from by omega];rfl
        ·by_cases aG:s[k+1].toNat=120
         ·have ed:s[k+1]=120:=UInt8.toNat_inj.1 aG;have aN:((s[k+1].toNat:Int)==34)=false:=by simp;omega
          have aQ:((s[k+1].toNat:Int)==92)=false:=by simp;omega
          have f110:((s[k+1].toNat:Int)==110)=false:=by simp;omega
          have aT:((s[k+1].toNat:Int)==116)=false:=by simp;omega
          have f120:((s[k+1].toNat:Int)==120)=true:=by simp;omega
          clear Z aD U aA aG;by_cases bP:s.size≤k+4
          ·have I:P18.behind (s[k+1]::(R18.body s.data.toList).drop (k+1))=(0,0):=by rw[ed];exact R18.behind_x_short (by rw[R18.body_len];omega)
           have D:P18.read s.data.toList=([],3):=by rw[Aa HR,Aa HP,Aa HB,Aa X,R18.within_esc0 (Aa Y) I];rfl
           have HF:=Ab D;have cG:(s.size:Int)-1≤(k:Int)+1+2:=by omega
           clear I D ed;go_wp2_with (first|(go_at_call 145;refine(Xl _ _).mono ?_;rintro e w' ⟨rfl,rfl⟩))
           all_goals go_ret2
           all_goals rw[Aa HF]
           all_goals exact⟨_,rfl,rfl,hb⟩
          ·have bH:k+2<s.size:=by omega
           have bC:k+3<s.size:=by omega
           have bX:(k:Int)+2<(s.size:Int):=by omega
           have bT:(k:Int)+3<(s.size:Int):=by omega
           have bY:¬((s.size:Int)-1≤(k:Int)+1+2):=by omega
           have cH:k+1+1<s.size:=bH;have cJ:k+1+2<s.size:=bC;have aM:(R18.body s.data.toList).drop (k+1)=s[k+1+1]::(R18.body s.data.toList).drop (k+2):=R18.body_drop (s:=s) (k:=k+2) (by omega) (by omega);have aL:(R18.body s.data.toList).drop (k+2)=s[k+1+2]::(R18.body s.data.toList).drop (k+3):=R18.body_drop (s:=s) (k:=k+3) (by omega) (by omega)
           have hx:P18.behind (s[k+1]::(R18.body s.data.toList).drop (k+1))=if R18.hex s[k+1+1]<0∨7<R18.hex s[k+1+1]∨R18.hex s[k+1+2]<0 then (0,0) else (16*R18.hex s[k+1+1]+R18.hex s[k+1+2],3):=by
            rw[ed,aM,aL];exact R18.behind_x _ _ _
           have ha:=R18.hex_bd s[k+1+1];have cN:=R18.hex_bd s[k+1+2];have bA:R18.hex s[k+1+1]<0∨(s[k+1+1].toNat≠34∧s[k+1+1].toNat≠92):=R18.hex_not _;have aS:R18.hex s[k+1+2]<0∨(s[k+1+2].toNat≠34∧s[k+1+2].toNat≠92):=R18.hex_not _;have bE:=Ab hx;have cT:=Ab aM;have cY:=Ab aL;have cR:=Ab ed;have bQ:=Ab bA;have cB:=Ab aS;clear hx aM aL ed bA aS;by_cases aE:R18.hex s[k+1+1]<0∨7<R18.hex s[k+1+1]∨R18.hex s[k+1+2]<0
           ·have I:P18.behind (s[k+1]::(R18.body s.data.toList).drop (k+1))=(0,0):=by rw[Aa bE,if_pos aE]
            have D:P18.read s.data.toList=([],3):=by rw[Aa HR,Aa HP,Aa HB,Aa X,R18.within_esc0 (Aa Y) I];rfl
            have HF:=Ab D;clear I D;rcases aE with aE|aE|aE;all_goals go_wp2_with (first|(go_at_call 145;refine(Xl _ _).mono ?_;rintro e w' ⟨rfl,rfl⟩))
            all_goals go_ret2
            all_goals rw[Aa HF]
            all_goals exact⟨_,rfl,rfl,hb⟩
           ·have x1:¬R18.hex s[k+1+1]<0:=by omega
            have x2:¬7<R18.hex s[k+1+1]:=by omega
            have x3:¬R18.hex s[k+1+2]<0:=by omega
            have ht:0≤16*R18.hex s[k+1+1]+R18.hex s[k+1+2]∧16*R18.hex s[k+1+1]+R18.hex s[k+1+2]<256:=by omega
            have I:P18.behind (s[k+1]::(R18.body s.data.toList).drop (k+1))=(((16*R18.hex s[k+1+1]+R18.hex s[k+1+2]).toNat:Int),((3:Nat):Int)):=by
             rw[Aa bE,if_neg aE];apply Prod.ext
             ·simp only;omega
             ·rfl
            have J:=R18.within_esc (c:=s[k]) (Aa Y) I (by omega)
            have bD:(s[k+1]::(R18.body s.data.toList).drop (k+1)).drop 3=(R18.body s.data.toList).drop (k+3):=by
             rw[List.drop_succ_cons,zI]
            rw[bD]at J;have l2:k+2<s.data.toList.length:=by rw[←Aa HZ];omega
            have l3:k+3<s.data.toList.length:=by rw[←Aa HZ];omega
            have n2:s[k+1+1].toNat≠34∧s[k+1+1].toNat≠92:=(Aa bQ).resolve_left x1;have n3:s[k+1+2].toNat≠34∧s[k+1+2].toNat≠92:=(Aa cB).resolve_left x3
            have bF:P18.cutQ (k+4) false (s.data.toList.drop (k+4))=some s.size:=by
             rw[←R18.cutQ_else (k:=k+3) l3 (by omega) n3.1 n3.2,←R18.cutQ_else (k:=k+2) l2 (by omega) n2.1 n2.2];exact Aa aB
            have bV:=Ab bF;have HS:=Ab J;clear I J bD bF n2 n3 l2 l3 aE;go_wp2_with (first|(go_at_call 145;refine(Xl _ _).mono ?_;rintro e w' ⟨rfl,rfl⟩))
            have a1:IntKind.i64.wrap ((k:Int)+1+1)=(k:Int)+1+1:=qG _ (by omega);have a2:IntKind.i64.wrap ((k:Int)+1+2)=(k:Int)+1+2:=qG _ (by omega);have a3:0≤(k:Int)+1+1:=by omega
            have a4:0≤(k:Int)+1+2:=by omega
            have a5:((k:Int)+1+1).toNat=k+1+1:=by omega
            have a6:((k:Int)+1+2).toNat=k+1+2:=by omega
            have a7:(k:Int)+1+1<(s.size:Int):=by omega
            have a8:(k:Int)+1+2<(s.size:Int):=by omega
            have a9:IntKind.i64.wrap (16*R18.hex s[k+1+1])=16*R18.hex s[k+1+1]:=qG _ (by omega);have cC:IntKind.i64.wrap (16*R18.hex s[k+1+1]+R18.hex s[k+1+2])=16*R18.hex s[k+1+1]+R18.hex s[k+1+2]:=qG _ (by omega);have bS:IntKind.u8.wrap (16*R18.hex s[k+1+1]+R18.hex s[k+1+2])=16*R18.hex s[k+1+1]+R18.hex s[k+1+2]:=by rw[IntKind.wrap_u8];omega
            go_region_held3 (fun _=>True) (trivial) (first
             |(go_at_call 145;refine(Xl _ _).mono ?_;rintro e w' ⟨rfl,rfl⟩)
             | (refine Qaf (by rfl) _ _ _ (by rfl) Tryz.underlying67 E9 (by rfl) ((N.alloc _).drew) _ (by omega) (by omega) _ (by rfl) (cell_one_new _ _ _) (by omega) (by have:=hb.size;simp;omega) ?_;intro v1 w1 G S))
            all_goals
             have Q:=((hb.alloc hb.size _).drew).grown S (by have:=hb.size;simp;omega) (fun k hk=>(N.lt k hk).1);clear a1 a2 a9 cC bS;go_wp2;go_roundg (gk-4)
             case measure=>omega
             case rel=>
              refine⟨k+4,out++[UInt8.ofNat (16*R18.hex s[k+1+1]+R18.hex s[k+1+2]).toNat],by omega,by omega,by omega,by go_num,?_,bV,by simp;omega,G,Q⟩;show _=_;rw[Aa HP,Aa HB,Aa X,Aa HS,R18.map_map,show k+4-1=k+3 from by omega]
         ·have I:P18.behind (s[k+1]::(R18.body s.data.toList).drop (k+1))=(0,0):=R18.behind_other (fun e=>Z (by rw[e];rfl)) (fun e=>aD (by rw[e];rfl)) (fun e=>U (by rw[e];rfl)) (fun e=>aA (by rw[e];rfl)) (fun e=>aG (by rw[e];rfl));have D:P18.read s.data.toList=([],3):=by rw[Aa HR,Aa HP,Aa HB,Aa X,R18.within_esc0 (Aa Y) I];rfl
          have HF:=Ab D;have aN:((s[k+1].toNat:Int)==34)=false:=by simp;omega
          have aQ:((s[k+1].toNat:Int)==92)=false:=by simp;omega
          have f110:((s[k+1].toNat:Int)==110)=false:=by simp;omega
          have aT:((s[k+1].toNat:Int)==116)=false:=by simp;omega
          have f120:((s[k+1].toNat:Int)==120)=false:=by simp;omega
          clear I D Z aD U aA aG;go_wp2_with (first|(go_at_call 145;refine(Xl _ _).mono ?_;rintro e w' ⟨rfl,rfl⟩))
          all_goals go_ret2
          all_goals rw[Aa HF]
          all_goals exact⟨_,rfl,rfl,hb⟩
    ·have bG:((s[k].toNat:Int) != 92)=true:=by simp;omega
     have aO:s[k].toNat≠34:=by
      intro aO;have h1:=R18.cutQ_quote aR (by omega) (by rw[e0];exact aO);rw[Aa HK]at h1;simp at h1;omega
     have aC:=(R18.cutQ_else aR (by omega) (by rw[e0];exact aO) (by rw[e0];exact aH)).symm.trans (Aa HK);have J:=R18.within_self (r:=(R18.body s.data.toList).drop k) (Aa bJ) aH;have HS:=Ab J;have aB:=Ab aC;clear aC aO aH e0 J
     go_wp2_with (first
      | (at_builtin;refine Ea rfl (.tmp 51) (.tmp 53) 67 rfl Tryz.underlying67 E9 rfl N _ (by omega) (by omega) rfl (by omega) hb.size ?_;intro v1 w1 G S _;have Q:=Er hb N S))
     go_roundg (gk-1)
     case measure=>omega
     case rel=>
      refine⟨k+1,out++[UInt8.ofNat ((s[k].toNat:Int)).toNat],by omega,by omega,by omega,by go_num,?_,aB,by simp;omega,G,Q⟩;show _=_;rw[Aa HP,Aa HB,Aa HS,R18.map_map,zL];simp
  ·obtain rfl:k=s.size-1:=by omega
   have bB:P18.within (R18.body s.data.toList)=some out:=by rw[Aa HP,R18.body_end,P18.within_nil];simp
   have bN:P18.read s.data.toList=P18.chk out:=by rw[Aa HR,bB]
   have bM:=Ab bN;have bW:(⟨out.toArray⟩:ByteArray).size≤1100000:=by rw[zP];simp;omega
   have aI:=fun W=>Dm ⟨out.toArray⟩ 4096 W bW;simp only[Vv]at aI;have cP:=Jl (P:=Tryz.prog) 67 9 Tryz.underlying67 Tryz.underlying5 Tryz.underlying9 N;clear bB bN;cases hbad:(P03.check out 4096 != 0)
   ·have bI:P03.check out 4096=0:=by simpa using hbad
    have D:P18.chk out=(out,0):=by rw[P18.chk,hbad];rfl
    have HF:=Ab D;rw[bI]at aI;have aX:=Ab aI;clear aI hbad bI D
    go_wp2_with (first
     | (go_at_call 84;refine(Aa aX _).mono ?_;rintro e w2 ⟨rfl,rfl⟩))
    go_ret2
    rw[Aa bM,Aa HF];exact⟨_,rfl,by simp,hb⟩
   ·have D:P18.chk out=([],P03.check out 4096):=by rw[P18.chk,hbad];rfl
    have HF:=Ab D;have aX:=Ab aI;clear aI D
    go_wp2_with (first
     | (go_at_call 84;refine(Aa aX _).mono ?_;rintro e w2 ⟨rfl,rfl⟩))
    go_ret2
    rw[Aa bM,Aa HF];exact⟨_,rfl,rfl,hb⟩
theorem Xz(s:ByteArray)(w:World)(h:s.size≤100000):Calls Tryz.prog 117 #[.string s] w (Y5 w (P18.read s.data.toList)):=by
 have hm:s.size≤maxLen:=by unfold maxLen;omega
 have J:=zP s;have I:=Tn s w hm;cases hp:P18.plain s.data.toList
 ·obtain⟨n,c,D⟩:∃n c:Nat,P18.cut s.data.toList=(n,c):=⟨_,_,rfl⟩;have Q:=Ww s w h;by_cases hbad:c≠0∨n≠s.size
  ·have G:P18.read s.data.toList=([],3):=by rw[P18.read,D];exact P18.readF_bad (by rw[←J];exact hbad)
   rw[G];rw[hp]at I;rw[D]at Q;have N:=Ab I;have U:=Ab Q;clear G I Q D J hp;by_cases X:c=0
   ·subst X;have Z:((n:Int) != (s.size:Int))=true:=by simp;omega
    clear hbad;go_enter Tryz.func117,Tryz.ntmps117
    go_wp2_with (first
     |(go_at_call 121;refine(Aa N).mono ?_;rintro e w' ⟨rfl,rfl⟩)
     | (go_at_call 116;refine(Aa U).mono ?_;rintro e w' ⟨rfl,rfl⟩))
    go_ret2
    exact⟨_,rfl,rfl,qV _ _⟩
   ·have aA:((c:Int) != 0)=true:=by simp;omega
    clear hbad X;go_enter Tryz.func117,Tryz.ntmps117
    go_wp2_with (first
     |(go_at_call 121;refine(Aa N).mono ?_;rintro e w' ⟨rfl,rfl⟩)
     | (go_at_call 116;refine(Aa U).mono ?_;rintro e w' ⟨rfl,rfl⟩))
    go_ret2
    exact⟨_,rfl,rfl,qV _ _⟩
  ·obtain⟨rfl,rfl⟩:c=0∧n=s.size:=by omega
   have hq:=R18.read_unquoted hp (by rw[D]) (by rw[D];exact J);have h2:=(P18.cut_ok _ (by rw[D]) hq).1;rw[D]at h2;have Y:2≤s.size:=h2;have h0:=((P18.prefix_iff _).1 hq).2;have g0:s.data.toList.getD 0 0=s[0]:=by rw[List.getD_eq_getElem?_getD,Lib.data_getElem? s 0 (by omega)];rfl
   rw[g0]at h0;exact Yb s w h Y h0 hp D
 ·have G:=R18.read_plain hp;rw[←J]at G;rw[hp]at I;have N:=Ab I;have R:=Ab G;clear I G hp J;by_cases S:4096<(s.size:Int)
  ·go_enter Tryz.func117,Tryz.ntmps117
   go_wp2_with (first
    | (go_at_call 121;refine(Aa N).mono ?_;rintro e w' ⟨rfl,rfl⟩))
   go_ret2
   rw[Aa R,if_pos S];exact⟨_,rfl,rfl,qV _ _⟩
  ·go_enter Tryz.func117,Tryz.ntmps117
   go_wp2_with (first
    | (go_at_call 121;refine(Aa N).mono ?_;rintro e w' ⟨rfl,rfl⟩))
   go_ret2
   rw[Aa R,if_neg (by omega)];exact⟨_,rfl,rfl,qV _ _⟩
end Go.Proofs.YtnjokdbblmlhhaaGreatDoor
namespace Go.Proofs.YtnjokdbblmlhhaaGreatDoor
set_option maxHeartbeats 4000000
set_option maxRecDepth 100000
open Go.RowKit
def Ug(t:Tk):Value:=.agg #[.int .u8 t.1,C0 t.2.1,.int .i64 t.2.2.1,.int .i64 t.2.2.2]
def Df(t:Tk):List Value:=[.int .u8 t.1,C0 t.2.1,.int .i64 t.2.2.1,.int .i64 t.2.2.2]
theorem Bu{W:World}{g:Nat}{t:TypeId}{a b c d:Value}(h:W.heap[g]?=some (.cells #[a,b,c,d] t))(v0 D G v3:Value) :
  ((((W.setCell ⟨g,0,none⟩ v0).setCell ⟨g,1,none⟩ D).setCell ⟨g,2,none⟩ G).setCell ⟨g,3,none⟩ v3).heap[g]?=some (.cells #[v0,D,G,v3] t):=by
 simp[World.setCell,Array.getElem?_modify,h]
theorem A1{W:World}{g:Nat}{t:TypeId}{a b c d:Value}(h:W.heap[g]?=some (.cells #[a,b,c,d] t)) :
  (W.cell? ⟨g,0,none⟩=some a∧W.frozen? ⟨g,0,none⟩=false)∧(W.cell? ⟨g,1,none⟩=some b∧W.frozen? ⟨g,1,none⟩=false)∧(W.cell? ⟨g,2,none⟩=some c∧W.frozen? ⟨g,2,none⟩=false)∧(W.cell? ⟨g,3,none⟩=some d∧W.frozen? ⟨g,3,none⟩=false):=by
 simp[World.cell?,World.frozen?,h]
def A5(ts:List Tk):List Value:=ts.flatMap Df
theorem Ec(a b:List Tk):A5 (a++b)=A5 a++A5 b:=by simp[A5]
def Fc(W:World)(B:Nat)(v:Value)(ts:List Tk):Prop:=W.ownsRow B 124 4 v ts.length (A5 ts)
theorem Lk:(Tryz.prog.info? 124).map (fun i=>(i.zero,i.size,i.bytes))=some (some (.agg #[.int .u8 0,.string ⟨#[]⟩,.int .i64 0,.int .i64 0]),4,40):=by kernel_rfl
theorem Xo:∀ts:List Tk,(A5 ts).length=ts.length*4
 | []=>rfl
 |t::ts=>by
  have ih:=Xo ts;have e:A5 (t::ts)=Df t++A5 ts:=rfl;rw[e,qH,ih,qE];show 4+_=_;omega
theorem X2(W:World)(B:Nat)(t:Tk)(hB:B≤W.heap.size)(cs:Array Value)(hc:cs.toList=Df t):Fc (W.alloc (.cells cs 124)) B (.slice (some ⟨W.heap.size,0,none⟩) 1 1) [t]:=by
 have hs:cs.size=1*4:=by rw[←Array.length_toList,hc];rfl
 have h:=World.ownsRow_lit (e:=124) (size:=4) W cs 1 hB (by unfold maxLen;omega) hs;unfold Fc;have e:A5 [t]=cs.toList:=by rw[hc];simp[A5]
 rw[e];exact h
theorem Ws(W:World)(B H:Nat)(t:Tk)(D:W.heap.size=H)(hB:B≤W.heap.size)(cs:Array Value)(hc:cs.toList=Df t):Fc (W.alloc (.cells cs 124)) B (.slice (some ⟨H,0,none⟩) 1 1) [t]:=by
 rw[←D];exact X2 W B t hB cs hc
theorem Rr:∀(ts:List Tk),∀u∈A5 ts,u.oneCell'=true:=by
 intro ts u hu;simp only[A5,List.mem_flatMap]at hu;obtain⟨t,_,ht⟩:=hu;simp only[Df,zN,List.not_mem_nil,or_false]at ht;rcases ht with rfl|rfl|rfl|rfl<;>rfl
theorem Wp{w:World}{B:Nat}{v:Value}{ts more:List Tk}{I:Array Oper}{rest:List Oper}{o:Oper}{a:Act}{Q:Exit→Act→World→Prop}(J:o.guard=none)(s x:Operand)
  (ho:o.op=.call { callee:=.builtin .append,args:=#[s,x],argTypes:=#[55,55] })
  (hs:a.eval s=v) (G:Fc w B v ts) (g cap m:Nat) (U:more.length=m) (hx:a.eval x=.slice (some ⟨g,0,none⟩) m cap) (D:∀j u,(A5 more)[j]?=some u→w.cell? ((⟨g,0,none⟩:Addr).add j)=some u)
  (S:ts.length+m≤1000000000) (hB:B≤w.heap.size)
  (h:∀v' w',Fc w' B v' (ts++more)→w.grownBy w' v.ownBlock→wpList Tryz.prog I Q rest (a.put o.dst v') w') :
  wpList Tryz.prog I Q (o::rest) a w:=by
 obtain⟨i,hi,hz,N,R⟩:=info_parts Lk
 refine wpList_append_own_at (w:=w) (P:=Tryz.prog) J s x 55 ho B 124 i (.agg #[.int .u8 0,.string ⟨#[]⟩,.int .i64 0,.int .i64 0]) 4 40 Tryz.underlying55 hi hz N R rfl (by decide) v ts.length (A5 ts) hs G
  ⟨g,0,none⟩ m cap (A5 more) hx (by rw[Xo,U]) D (Rr more) (by unfold maxLen;omega) (by omega) hB ?_
 intro v' w' h2 h3 _ h5;refine h v' w' ?_ h3;unfold Fc;rw[Ec,qH,U];exact h2
end Go.Proofs.YtnjokdbblmlhhaaGreatDoor
namespace Go.Proofs.YtnjokdbblmlhhaaGreatDoor
set_option maxHeartbeats 4000000
set_option maxRecDepth 100000
open Go.RowKit
theorem Oq(k:Nat)(t:ByteArray)(n col:Int)(w:World) :
  Calls Tryz.prog 72 #[.int .u8 k,.string t,.int .i64 n,.int .i64 col] w fun e w'=>e=.returned (.agg #[.int .u8 k,.string t,.int .i64 n,.int .i64 col])∧Below w.heap.size w w':=by
 go_enter Tryz.func72,Tryz.ntmps72
 go_wp2;refine qW (results_cell_row rfl _ _ _ _ _ _ _ rfl (qB w (.cells #[.int .u8 k,.string t,.int .i64 n,.int .i64 col] 124)) Tryz.underlying124 rfl (by kernel_rfl)) rfl ⟨rfl,?_⟩;exact(qV _ w).alloc (qJ _) _
theorem Qaz(s:ByteArray)(k:Nat)(h:k<s.size):P19.skip (s.data.toList.drop k)=if s[k]=32 then P19.skip (s.data.toList.drop (k+1))+1 else 0:=by
 have hl:k<s.data.toList.length:=by rw[←zP];exact h
 rw[Wj s k h];unfold P19.skip;by_cases D:s[k]=32
 ·rw[if_pos D,D,List.takeWhile_cons_of_pos (by rfl),qE]
 ·rw[if_neg D,List.takeWhile_cons_of_neg (by simpa using D)];rfl
theorem Zk(s:ByteArray)(w:World)(h:s.size≤4000000) :
  Calls Tryz.prog 114 #[.string s] w fun e w'=>e=.returned (.int .i64 (P19.skip s.data.toList))∧w'=w:=by
 go_enter Tryz.func114,Tryz.ntmps114
 go_wp2
 go_loopg [3] s.size (fun g s3 Q=>∃k:Nat,k+g=s.size∧s3=.int .i64 k∧Hid (P19.skip s.data.toList=k+P19.skip (s.data.toList.drop k))∧w=Q)
 case atStart=>exact⟨0,by omega,by go_num,Ab (by rw[List.drop_zero,Nat.zero_add]),rfl⟩
 case round=>
  obtain⟨k,N,rfl,G,rfl⟩:=hrel;cases gk with
  |zero=>
   have R:(s.size:Int)=(k:Int):=by omega
   have hn:s.data.toList.drop k=[]:=List.drop_eq_nil_of_le (by rw[←zP];omega);rw[hn]at G;clear hn;go_wp2;go_ret;exact⟨De (by rw[Aa G];rfl),rfl⟩
  |succ g'=>
   have hk:k<s.size:=by omega
   have hk2:(k:Int)<(s.size:Int):=by omega
   have J:IntKind.i64.wrap ((k:Int)+1)=(k:Int)+1:=qG _ (by omega);rw[Qaz s k hk]at G;by_cases D:s[k]=32
   ·have I:((s[k].toNat:Int)==32)=true:=by rw[i32,D];rfl
    rw[if_pos D]at G;clear D;go_wp2;go_roundg g'
    case measure=>omega
    case rel=>exact⟨k+1,by omega,by go_num,Ab (by rw[Aa G];omega),rfl⟩
   ·have I:((s[k].toNat:Int)==32)=false:=by rw[i32];simpa using D
    rw[if_neg D]at G;clear D;go_wp2;go_ret;exact⟨De (by rw[Aa G];rfl),rfl⟩
theorem Nt(s:ByteArray)(l:List UInt8):(s.toList==l)=decide (s.data.toList=l):=by
 rw[Lib.toList_data];by_cases h:s.data.toList=l
 ·rw[h];simp
 ·rw[decide_eq_false h];simpa using h
theorem K5{s:ByteArray}{l:List UInt8}(h:s.data.toList=l):s=⟨l.toArray⟩:=P18.bytes_ext h
theorem Sh{s:ByteArray}{l:List UInt8}(h:s.data.toList≠l):(s.toList==l)=false:=by rw[Nt,decide_eq_false h]
theorem Pp{s:ByteArray}{l:List UInt8}(h:s.data.toList≠l):(s.toList==(⟨l.toArray⟩:ByteArray).toList)=false:=by
 rw[Lib.toList_data,Lib.toList_data,beq_eq_false_iff_ne];simpa using h
theorem D4{G:Func}{p u:Tmp}{I:TypeId}(h:G.results=#[.cell p I,.tmp u])(tmps:Array Value)(P:Program)(w:World)(g:Nat)(v:Value)
  (hp:tmps.getD p undef=.pointer (some ⟨g,0,none⟩)) (hl:(loadVar I ⟨g,0,none⟩).run P w=.ok v w) :
  (results G tmps).run P w=.ok (.tuple #[v,tmps.getD u undef]) w:=by
 have D:tmps[p]?.getD undef=.pointer (some ⟨g,0,none⟩):=by simpa using hp
 simp[results,h,D,asAddr,Sem.run_bind,Result.andThen,hl]
theorem Be{w W:World}{g:Nat}(h:Below w.heap.size w W)(D:w.heap.size≤g)(v0 G I v3:Value):Below w.heap.size w ((((W.setCell ⟨g,0,none⟩ v0).setCell ⟨g,1,none⟩ G).setCell ⟨g,2,none⟩ I).setCell ⟨g,3,none⟩ v3):=
 Bq (Bq (Bq (Bq h 0 _ D) 1 _ D) 2 _ D) 3 _ D
theorem Sx(s:ByteArray)(k:Nat)(n col:Int)(w:World)(h:s=⟨#[91,93]⟩∧k=6∨s=⟨#[123,125]⟩∧k=7) :
  Calls Tryz.prog 115 #[.string s,.int .i64 n,.int .i64 col] w fun e w'=>e=.returned (.tuple #[.agg #[.int .u8 k,.string ⟨#[]⟩,.int .i64 n,.int .i64 col],.int .i64 0])∧Below w.heap.size w w':=by
 rcases h with⟨rfl,rfl⟩|⟨rfl,rfl⟩
 all_goals
  go_enter Tryz.func115,Tryz.ntmps115
  go_wp2_with (go_at_call 72;refine(Oq _ _ _ _ _).mono ?_;rintro e w' ⟨rfl,hb⟩;have D:w'.heap[w.heap.size]?=some (.cells #[.int .u8 0,.string ⟨#[]⟩,.int .i64 0,.int .i64 0] 124):=(hb.block _ (by simp)).trans (qB w _);have G:Below w.heap.size w w':=((qV _ w).alloc (qJ _) _).trans (hb.mono (by simp));obtain⟨⟨S,N⟩,⟨X,I⟩,⟨U,R⟩,⟨J,Q⟩⟩:=A1 D)
  refine qW (D4 rfl _ _ _ _ _ rfl (qX _ _ _ _ _ _ _ (Bu D _ _ _ _) Tryz.underlying124 rfl (by kernel_rfl))) rfl ⟨rfl,?_⟩;exact Be G (qJ _) _ _ _ _
theorem Yx(s:ByteArray)(n col:Int)(w:World)(h:s.size≤100000) :
  Calls Tryz.prog 115 #[.string s,.int .i64 n,.int .i64 col] w fun e w'=>e=.returned (.tuple #[Ug (P19.value n col s.data.toList).1,.int .i64 (P19.value n col s.data.toList).2])∧Below w.heap.size w w':=by
 by_cases h1:s.data.toList=[91,93]
 ·have Z:P19.value n col s.data.toList=((6,[],n,col),0):=by rw[P19.value,if_pos h1]
  rw[Z];exact Sx s 6 n col w (.inl ⟨K5 h1,rfl⟩)
 by_cases h2:s.data.toList=[123,125]
 ·have Z:P19.value n col s.data.toList=((7,[],n,col),0):=by rw[P19.value,if_neg h1,if_pos h2]
  rw[Z];exact Sx s 7 n col w (.inr ⟨K5 h2,rfl⟩)
 have n1:=Pp h1;have n2:=Pp h2;have n3:=Sh h1;have n4:=Sh h2;have hcut:=Ww s;have Q:=zP s
 have hv:P19.value n col s.data.toList=if (P18.cut s.data.toList).2≠0∨(P18.cut s.data.toList).1≠s.size then ((0,[],0,0),3) else ((5,(P18.read s.data.toList).1,n,col),(P18.read s.data.toList).2):=by
  rw[P19.value,if_neg h1,if_neg h2,Q]
 clear h1 h2;obtain⟨⟨k,c⟩,N⟩:∃x,P18.cut s.data.toList=x:=⟨_,rfl⟩;obtain⟨⟨t,e⟩,hte⟩:∃x,P18.read s.data.toList=x:=⟨_,rfl⟩;have J:=Xz s;rw[N]at hv;simp only[N]at hcut;rw[hte]at hv;simp only[hte]at J;have D:=Ab hcut;have Y:=Ab J;clear hcut J N hte Q;by_cases hbad:c≠0∨k≠s.size
 ·rw[if_pos hbad]at hv;rw[hv];clear hv;unfold Ug C0;have hj:c≠0∨(c=0∧k≠s.size):=by omega
  clear hbad;rcases hj with hc|⟨hc,hk⟩
  ·have jc:((c:Int) != 0)=true:=by simp;omega
   go_enter Tryz.func115,Tryz.ntmps115
   go_wp2_with (go_at_call 116;refine(Aa D _ (by omega)).mono ?_;rintro e w' ⟨rfl,rfl⟩)
   refine qW (D4 rfl _ _ _ _ _ rfl (qX _ _ _ _ _ _ _ (qB w (.cells #[.int .u8 0,.string ⟨#[]⟩,.int .i64 0,.int .i64 0] 124)) Tryz.underlying124 rfl (by kernel_rfl))) rfl ⟨rfl,?_⟩;exact(qV _ w).alloc (qJ _) _
  ·have jk:((k:Int) != (s.size:Int))=true:=by simp;omega
   have jc:((c:Int) != 0)=false:=by simp;omega
   clear hk hc;go_enter Tryz.func115,Tryz.ntmps115
   go_wp2_with (go_at_call 116;refine(Aa D _ (by omega)).mono ?_;rintro e w' ⟨rfl,rfl⟩)
   refine qW (D4 rfl _ _ _ _ _ rfl (qX _ _ _ _ _ _ _ (qB w (.cells #[.int .u8 0,.string ⟨#[]⟩,.int .i64 0,.int .i64 0] 124)) Tryz.underlying124 rfl (by kernel_rfl))) rfl ⟨rfl,?_⟩;exact(qV _ w).alloc (qJ _) _
 ·rw[if_neg hbad]at hv;rw[hv];clear hv;have jc:((c:Int) != 0)=false:=by simp;omega
  have jk:((k:Int) != (s.size:Int))=false:=by simp;omega
  clear hbad;unfold Ug;go_enter Tryz.func115,Tryz.ntmps115
  go_wp2_with (first
   |(go_at_call 116;refine(Aa D _ (by omega)).mono ?_;rintro e w' ⟨rfl,rfl⟩)
   |(go_at_call 117;refine(Aa Y _ (by omega)).mono ?_;rintro e' w1 ⟨b,rfl,hb,I⟩;have aA:b=⟨t.toArray⟩:=K5 hb;subst aA;have U:w1.heap[w.heap.size]?=some (.cells #[.int .u8 0,.string ⟨#[]⟩,.int .i64 0,.int .i64 0] 124):=(I.block _ (by simp)).trans (qB w _);have X:Below w.heap.size w w1:=((qV _ w).alloc (qJ _) _).trans (I.mono (by simp));clear I hb)
   | (go_at_call 72;refine(Oq _ _ _ _ _).mono ?_;rintro e' w2 ⟨rfl,R⟩;have G:w2.heap[w.heap.size]?=some (.cells #[.int .u8 0,.string ⟨#[]⟩,.int .i64 0,.int .i64 0] 124):=(R.block _ (qA.1 U).1).trans U;have S:Below w.heap.size w w2:=X.trans (R.mono X.size);obtain⟨⟨x0,y0⟩,⟨x1,y1⟩,⟨x2,y2⟩,⟨x3,y3⟩⟩:=A1 G))
  refine qW (D4 rfl _ _ _ _ _ rfl (qX _ _ _ _ _ _ _ (Bu G _ _ _ _) Tryz.underlying124 rfl (by kernel_rfl))) rfl ⟨rfl,?_⟩;exact Be S (qJ _) _ _ _ _
end Go.Proofs.YtnjokdbblmlhhaaGreatDoor
namespace Go.Proofs.YtnjokdbblmlhhaaGreatDoor
set_option maxHeartbeats 4000000
set_option maxRecDepth 100000
open Go.RowKit Go.Shelf
theorem E7(s:ByteArray)(k:Nat):(s.extract k s.size).data.toList=s.data.toList.drop k:=by
 rw[Lib.extract_data,List.take_of_length_le (by rw[qQ,←zP];exact qJ _)]
theorem Cy(w:World)(D o2:Obj):((w.alloc D).alloc o2).heap[w.heap.size+1]?=some o2:=by
 have h:=qB (w.alloc D) o2;rw[qF]at h;exact h
theorem D5(a c:UInt8)(r:List UInt8):Lib.hasPrefix (a::r) [c]=(a==c):=by
 show (List.isPrefixOf [c] (a::r))=_;simp only[List.isPrefixOf,Bool.and_true];by_cases h:a=c
 ·subst h;simp
 ·rw[beq_eq_false_iff_ne.2 h,beq_eq_false_iff_ne.2 (fun e=>h e.symm)]
theorem Jh(c:UInt8)(r:List UInt8):Lib.trimPrefix (c::r) [c]=r:=by
 unfold Lib.trimPrefix;rw[D5];simp
theorem Ju{l:List UInt8}{c:UInt8}(h:Lib.hasPrefix l [c]=false):Lib.trimPrefix l [c]=l:=by
 unfold Lib.trimPrefix;rw[h];simp
theorem Di(n col:Int)(s t:ByteArray)(k:Nat)(w:World) :
  Calls Tryz.prog 165 #[.agg #[.int .i64 n,.int .i64 col,.string s],.int .u8 k,.string t] w fun e w'=>e=.returned (.agg #[.int .u8 k,.string t,.int .i64 n,.int .i64 col])∧Below w.heap.size w w':=by
 go_enter Tryz.func165,Tryz.ntmps165
 go_wp2;have h0:=qB (w.alloc (.cells #[.int .i64 n,.int .i64 col,.string s] 187)) (.cells #[.int .u8 k,.string t,.int .i64 n,.int .i64 col] 124);rw[qF]at h0;refine qW (results_cell_row rfl _ _ _ _ _ _ _ rfl h0 Tryz.underlying124 rfl (by kernel_rfl)) rfl ⟨rfl,?_⟩;exact((qV _ w).alloc (qJ _) _).alloc (by simp) _
theorem L2(s:ByteArray)(c:UInt8)(w:World)(h:s.size≤1100000) :
  Calls Tryz.prog 164 #[.string s,.string ⟨#[c]⟩] w fun e w'=>e=.returned (.bool (P19.signB c s.data.toList))∧w'=w:=by
 have D:=Tryz.strings_CutPrefix s ⟨#[c]⟩ w;have hx:(⟨#[c]⟩:ByteArray).data.toList=[c]:=rfl;rw[hx]at D;clear hx;cases hp:Lib.hasPrefix s.data.toList [c]with
 |false=>
  have hs:P19.signB c s.data.toList=false:=by
   cases hl:s.data.toList with
   |nil=>rfl
   |cons a r=>
    rw[hl,D5]at hp;simp[P19.signB,hp]
  rw[hs];rw[hp,Ju hp]at D;have G:=Ab D;clear D hs hp;go_enter Tryz.func164,Tryz.ntmps164
  go_wp2_with (go_at_call 180;refine(Aa G).mono ?_;rintro e w' ⟨rfl,hw⟩;rw[hw];clear hw)
  go_ret;exact⟨rfl,rfl⟩
 |true=>
  obtain⟨r,hl⟩:∃r,s.data.toList=c::r:=by
   cases hl:s.data.toList with
   |nil=>rw[hl]at hp;cases hp
   |cons a r=>
    rw[hl,D5]at hp;exact⟨r,by rw[show a=c from by simpa using hp]⟩
  rw[hp,hl,Jh]at D;rw[hl];cases r with
  |nil=>
   rw[show P19.signB c [c]=true from by simp[P19.signB]];have G:=Ab D;clear D hp hl;go_enter Tryz.func164,Tryz.ntmps164
   go_wp2_with (go_at_call 180;refine(Aa G).mono ?_;rintro e w' ⟨rfl,hw⟩;rw[hw];clear hw)
   go_ret;exact⟨rfl,rfl⟩
  |cons b r=>
   rw[show P19.signB c (c::b::r)=(b==32) from by simp[P19.signB]];have I:=Tryz.strings_HasPrefix ⟨(b::r).toArray⟩ ⟨#[32]⟩ w;have hx:Lib.hasPrefix (⟨(b::r).toArray⟩:ByteArray).data.toList (⟨#[32]⟩:ByteArray).data.toList=(b==32):=D5 b 32 r;rw[hx]at I;have N:=Ab I;have hne:(⟨(b::r).toArray⟩:ByteArray).toList.isEmpty=false:=by rw[Lib.toList_data];rfl
   obtain⟨lb,J⟩:∃lb:ByteArray,(⟨(b::r).toArray⟩:ByteArray)=lb:=⟨_,rfl⟩;rw[J]at D N hne;have G:=Ab D;clear D hp hl I hx J;go_enter Tryz.func164,Tryz.ntmps164
   go_wp2_with (first
    |(go_at_call 180;refine(Aa G).mono ?_;rintro e w' ⟨rfl,hw⟩;rw[hw];clear hw)
    | (go_at_call 149;refine(Aa N).mono ?_;rintro e w' ⟨rfl,hw⟩;rw[hw];clear hw))
   go_ret;exact⟨rfl,rfl⟩
theorem Om(s:ByteArray)(k:Nat):Fo (s.data.toList.drop k)=s.data.toList.drop (k+P19.skip (s.data.toList.drop k)):=by
 rw[←P19.skip_drop,zI]
theorem Mr(n col:Int)(s:ByteArray)(k:Nat)(w:World)(hs:s.size≤1100000)(hk:k≤s.size)(U:0≤col)(Q:col≤1000000000) :
  Calls Tryz.prog 166 #[.agg #[.int .i64 n,.int .i64 col,.string s],.int .i64 k] w fun e w'=>∃b:ByteArray,e=.returned (.agg #[.int .i64 n,.int .i64 (col+(k+P19.skip (s.data.toList.drop k):Nat)),.string b])∧b.data.toList=s.data.toList.drop (k+P19.skip (s.data.toList.drop k))∧Below w.heap.size w w':=by
 obtain⟨q,hq⟩:∃q,P19.skip (s.data.toList.drop k)=q:=⟨_,rfl⟩
 have R:k+q≤s.size:=by
  have h1:=P19.skip_le (s.data.toList.drop k);rw[hq,qQ,←zP]at h1;omega
 have D:=Iw (s.extract k s.size);rw[E7,Om,hq]at D;rw[hq];have G:=Ab D;have S:(k:Int)≤(s.size:Int):=by omega
 clear D hq;go_enter Tryz.func166,Tryz.ntmps166
 go_wp2_with (go_at_call 101;refine(Aa G _).mono ?_;rintro e X ⟨o,rfl,J,hw⟩;rw[hw];clear hw;have N:o.size=s.size-(k+q):=(by rw[zP,Aa J,qQ,←zP]);have hz:IntKind.i64.wrap (IntKind.i64.wrap (col+(s.size:Int))-(o.size:Int))=col+((k+q:Nat):Int):=(by rw[qG (col+(s.size:Int)) (by omega),qG _ (by omega)];omega))
 have I:col+(s.size:Int)-((s.size-(k+q):Nat):Int)=col+((k+q:Nat):Int):=by omega
 have h0:=qB (w.alloc (.cells #[.int .i64 n,.int .i64 col,.string s] 187)) (.cells #[.int .i64 n,.int .i64 (col+(s.size:Int)-((s.size-(k+q):Nat):Int)),.string o] 187);rw[qF]at h0;refine qW (results_cell_row rfl _ _ _ _ _ _ _ rfl h0 Tryz.underlying187 rfl (by kernel_rfl)) rfl ⟨o,?_,Aa J,?_⟩
 ·rw[I]
 ·exact((qV _ w).alloc (qJ _) _).alloc (by simp) _
theorem Rv(n col:Int)(s:ByteArray)(k:Nat)(w:World)(h:s=⟨#[91,93]⟩∧k=6∨s=⟨#[123,125]⟩∧k=7) :
  Calls Tryz.prog 167 #[.agg #[.int .i64 n,.int .i64 col,.string s]] w fun e w'=>e=.returned (.tuple #[.agg #[.int .u8 k,.string ⟨#[]⟩,.int .i64 n,.int .i64 col],.bool true])∧Below w.heap.size w w':=by
 rcases h with⟨rfl,rfl⟩|⟨rfl,rfl⟩
 all_goals
  go_enter Tryz.func167,Tryz.ntmps167
  go_wp2_with (go_at_call 165;refine(Di _ _ _ _ _ _).mono ?_;rintro e w' ⟨rfl,hb⟩;have D:w'.heap[w.heap.size+1]?=some (.cells #[.int .u8 0,.string ⟨#[]⟩,.int .i64 0,.int .i64 0] 124):=(hb.block _ (by simp)).trans (Cy _ _ _);have G:Below w.heap.size w w':=(((qV _ w).alloc (qJ _) _).alloc (by simp) _).trans (hb.mono (by simp;omega));obtain⟨⟨S,N⟩,⟨X,I⟩,⟨U,R⟩,⟨J,Q⟩⟩:=A1 D)
  refine qW (D4 rfl _ _ _ _ _ rfl (qX _ _ _ _ _ _ _ (Bu D _ _ _ _) Tryz.underlying124 rfl (by kernel_rfl))) rfl ⟨rfl,?_⟩;exact Be G (by omega) _ _ _ _
theorem Ta(n col:Int)(s:ByteArray)(w:World)(h1:s.data.toList≠[91,93])(h2:s.data.toList≠[123,125]) :
  Calls Tryz.prog 167 #[.agg #[.int .i64 n,.int .i64 col,.string s]] w fun e w'=>e=.returned (.tuple #[.agg #[.int .u8 0,.string ⟨#[]⟩,.int .i64 0,.int .i64 0],.bool false])∧Below w.heap.size w w':=by
 have n1:=Pp h1;have n2:=Pp h2;have G:=Sh h1;have D:=Sh h2;clear h1 h2;go_enter Tryz.func167,Tryz.ntmps167
 go_wp2;refine qW (D4 rfl _ _ _ _ _ rfl (qX _ _ _ _ _ _ _ (Cy w (.cells #[.int .i64 n,.int .i64 col,.string s] 187) (.cells #[.int .u8 0,.string ⟨#[]⟩,.int .i64 0,.int .i64 0] 124)) Tryz.underlying124 rfl (by kernel_rfl))) rfl ⟨rfl,?_⟩;exact((qV _ w).alloc (qJ _) _).alloc (by simp) _
end Go.Proofs.YtnjokdbblmlhhaaGreatDoor
