/- Lemmas of this claim. -/
import Derived.Test.YtnjokdbblmlhhaaGreatDoorGW03Z
import Derived.Test.YtnjokdbblmlhhaaGreatDoorGPZ
import Derived.Test.YtnjokdbblmlhhaaGreatDoorShelfZ
import Derived.Test.YtnjokdbblmlhhaaGreatDoorGW17Z
import Derived.Test.YtnjokdbblmlhhaaGreatDoorGAZ
import Derived.Lib.Builder
import Derived.Lib.OthersKept
namespace Go.Proofs.YtnjokdbblmlhhaaGreatDoor
set_option linter.unusedVariables false
set_option linter.unusedSimpArgs false
open Go.RowKit
theorem Lt (r:Nat) (w:World) :
  Calls Tryz.prog 154 #[.int .i32 r] w fun e w'=>e=.returned (.bool (Hl r))∧w'=w:=by
 by_cases h1:r<32
 ·have h2:(r:Int)<32:=by omega
  have h3:Hl r=true:=by simp [Hl,h1]
  rw [h3]
  clear h1 h3
  go_enter Tryz.func154,Tryz.ntmps154
  go_wp2
  go_ret
  exact ⟨rfl,rfl⟩
 ·by_cases h2:r=127
  ·subst h2
   rw [show Hl 127=true from rfl]
   go_enter Tryz.func154,Tryz.ntmps154
   go_wp2
   go_ret
   exact ⟨rfl,rfl⟩
  ·have h3:Hl r=false:=by unfold Hl;simp;omega
   rw [h3]
   have h4:(32:Int)≤(r:Int):=by omega
   have h5:((r:Int) == 127)=false:=by simp;omega
   clear h1 h2 h3
   go_enter Tryz.func154,Tryz.ntmps154
   go_wp2
   go_ret
   exact ⟨Bn (decide_eq_false (by omega)),rfl⟩
set_option maxRecDepth 100000 in
set_option maxHeartbeats 800000 in
theorem Kv (s:ByteArray) (w:World) (h:s.size≤1099511627776) :
  Calls Tryz.prog 185 #[.string s,.func (.func 154) #[] #[],.bool true] w fun e w'=>
   ∃ k:Int,e=.returned (.int .i64 k)∧(decide (0≤k)=s.data.toList.any oddB)∧Below w.heap.size w w':=by
 go_enter Tryz.func185,Tryz.ntmps185
 go_wp2
 go_loopg [] s.size (fun g wx=>∃ (k:Nat),k≤s.size∧s.size≤k+g∧Hid (s.data.toList.any oddB=(s.data.toList.drop k).any oddB)∧wx=w.iter s k)
 case atStart=>exact ⟨0,by omega,by omega,Ab rfl,rfl⟩
 case round=>
  obtain ⟨k,hk,hkg,HP,rfl⟩:=hrel
  by_cases hlt:k<s.size
  ·have hnx:=fun ty=>run_next_any (P:=Tryz.prog) w s k ty hlt
   obtain ⟨d1,d2,d3⟩:=Ob s k hlt
   have hsp:(s.data.toList.drop k).any oddB=(Hl (Utf8.decode s k).1 || (s.data.toList.drop (k+(Utf8.decode s k).2)).any oddB):=by
    rw [← d3,← List.drop_drop,← List.any_append,List.take_append_drop]
   have HS:=Ab hsp
   clear hsp d3
   cases ho:Hl (Utf8.decode s k).1 with
   | true=>
    have HO:=Ab ho
    clear ho
    go_wp2_with (go_at_call 154;refine (Lt _ _).mono ?_;rintro e w' ⟨rfl,rfl⟩;rw [Aa HO])
    go_ret
    refine ⟨_,rfl,?_,Fi w s _⟩
    rw [Aa HP,Aa HS,Aa HO]
    simp
   | false=>
    have HO:=Ab ho
    clear ho
    go_wp2_with (go_at_call 154;refine (Lt _ _).mono ?_;rintro e w' ⟨rfl,rfl⟩;rw [Aa HO])
    go_roundg (gk - 1)
    case measure=>omega
    case rel=>
     refine ⟨k+(Utf8.decode s k).2,d2,by omega,Ab ?_,rfl⟩
     rw [Aa HP,Aa HS,Aa HO,Bool.false_or]
  ·have hnx:=fun ty=>run_next_end (P:=Tryz.prog) w s k ty hlt
   go_wp2
   go_ret
   refine ⟨_,rfl,?_,Fi w s _⟩
   rw [Aa HP,List.drop_eq_nil_of_le (by rw [← Lib.size_eq];omega)]
   rfl
set_option maxHeartbeats 400000 in
theorem Pa (s:ByteArray) (w:World) (h:s.size≤1099511627776) :
  Calls Tryz.prog 130 #[.string s] w fun e w'=>e=.returned (.bool (s.data.toList.any oddB))∧Below w.heap.size w w':=by
 obtain ⟨B,hB⟩:∃ B,s.data.toList.any oddB=B:=⟨_,rfl⟩
 rw [hB]
 have hI:∀ w,Calls Tryz.prog 174 #[.string s,.func (.func 154) #[] #[]] w fun e w'=>
   ∃ k:Int,e=.returned (.int .i64 k)∧(decide (0≤k)=B)∧Below w.heap.size w w':=by
  intro w
  go_enter Tryz.func174,Tryz.ntmps174
  go_wp2_with (go_at_call 185;refine (Kv s _ h).mono ?_;rintro e w' ⟨k,rfl,hk,hb⟩)
  go_ret
  exact ⟨k,rfl,hk.trans hB,hb⟩
 have hC:∀ w,Calls Tryz.prog 153 #[.string s,.func (.func 154) #[] #[]] w fun e w'=>
   e=.returned (.bool (B))∧Below w.heap.size w w':=by
  intro w
  go_enter Tryz.func153,Tryz.ntmps153
  go_wp2_with (go_at_call 174;refine (hI _).mono ?_;rintro e w' ⟨k,rfl,hk,hb⟩;have HK:=Ab hk;clear hk)
  all_goals go_ret
  all_goals exact ⟨Bn (Aa HK),hb⟩
 go_enter Tryz.func130,Tryz.ntmps130
 go_wp2_with (go_at_call 153;refine (hC _).mono ?_;rintro e w' ⟨rfl,hb⟩)
 all_goals go_ret
 all_goals exact ⟨rfl,hb⟩
end Go.Proofs.YtnjokdbblmlhhaaGreatDoor
namespace Go.Proofs.YtnjokdbblmlhhaaGreatDoor
set_option linter.unusedVariables false
set_option linter.unusedSimpArgs false
open Go.RowKit
def Id (l:List UInt8) (k:Nat):Bool:=k == 0 || l[k - 1]? == some 32
theorem Va (c:UInt8):((c.toNat:Int) == 34)=(c == 34):=by revert c;apply D1;decide +kernel
theorem Vp (c:UInt8):((c.toNat:Int) == 35)=(c == 35):=by revert c;apply D1;decide +kernel
theorem Vn (c:UInt8):((c.toNat:Int) == 92)=(c == 92):=by revert c;apply D1;decide +kernel
theorem i32 (c:UInt8):((c.toNat:Int) == 32)=(c == 32):=by revert c;apply D1;decide +kernel
theorem Ko (s:ByteArray) (k:Nat) (h:k<s.size):Id s.data.toList (k+1)=(s[k] == 32):=by
 unfold Id
 rw [Nat.add_sub_cancel,Lib.data_getElem? s k h]
 have:(k+1 == 0)=false:=by simp
 rw [this,Bool.false_or]
 cases hc:(s[k] == 32)
 ·simp at hc ⊢;exact hc
 ·simp at hc ⊢;exact hc
theorem Lu (s:ByteArray) (k:Nat) (w t:Bool) (h:k<s.size) :
  B1 (Id s.data.toList k) w t k (s.data.toList.drop k) =
   if t then B1 (Id s.data.toList (k+1)) w false (k+1) (s.data.toList.drop (k+1))
   else if w && s[k] == 92 then B1 (Id s.data.toList (k+1)) w true (k+1) (s.data.toList.drop (k+1))
   else if s[k] == 34 then B1 (Id s.data.toList (k+1)) (!w) false (k+1) (s.data.toList.drop (k+1))
   else if w || s[k] != 35 then B1 (Id s.data.toList (k+1)) w false (k+1) (s.data.toList.drop (k+1))
   else if Id s.data.toList k then k
   else B1 (Id s.data.toList (k+1)) w false (k+1) (s.data.toList.drop (k+1)):=by
 have hl:k<s.data.toList.length:=by rw [← Lib.size_eq];exact h
 rw [List.drop_eq_getElem_cons hl,B1,Ko s k h]
 rfl
theorem Ni (s:ByteArray) (k:Nat) (b w t:Bool) (h:s.size≤k):B1 b w t k (s.data.toList.drop k)=k:=by
 rw [List.drop_eq_nil_of_le (by rw [← Lib.size_eq];exact h),B1]
theorem Hk (s:ByteArray) (w:World) (hs:s.size≤1099511627776) :
  Calls Tryz.prog 134 #[.string s,.string ⟨#[32]⟩] w fun e w'=>e=.returned (.string ⟨(Pl s.data.toList).toArray⟩)∧w'=w:=
 Tryz.strings_TrimRight_one s 32 (by decide) w (by omega)
theorem P8 (s:ByteArray) (w:World) :
  Calls Tryz.prog 101 #[.string s,.string ⟨#[32]⟩] w fun e w'=>e=.returned (.string ⟨(Fo s.data.toList).toArray⟩)∧w'=w:=
 Tryz.strings_TrimLeft_one s 32 (by decide) w
theorem Is {s:ByteArray} {k:Nat} (h:B1 true false false 0 s.data.toList=k):C1 s.data.toList=Pl (s.extract 0 k).data.toList:=by
 rw [C1,h,Lib.extract_data,List.drop_zero,Nat.sub_zero]
theorem Lj (s:ByteArray):s.extract 0 s.size=s:=by
 rw [Lib.extract_eq,List.drop_zero,Nat.sub_zero,List.take_of_length_le (by rw [← Lib.size_eq];exact Nat.le_refl _)]
set_option maxRecDepth 100000 in
set_option maxHeartbeats 1600000 in
theorem Qp (s:ByteArray) (w:World) (h:s.size≤1099511627776) :
  Calls Tryz.prog 100 #[.string s] w fun e w'=>e=.returned (.string ⟨(C1 s.data.toList).toArray⟩)∧∃ n,w'=w.drewN n:=by
 go_enter Tryz.func100,Tryz.ntmps100
 go_wp2
 go_step3
 go_wp2
 go_step3
 go_wp2
 go_loopg [3,4,5,11] s.size (fun g s3 s4 s5 s11 wx=>∃ (k n:Nat) (wi ta:Bool),k+g=s.size∧s3=.int .i64 s.size∧s4=.bool wi∧s5=.bool ta∧s11=.int .i64 k ∧
  Hid (B1 true false false 0 s.data.toList=B1 (Id s.data.toList k) wi ta k (s.data.toList.drop k))∧wx=w.drewN n)
 case atStart=>exact ⟨0,0,false,false,by omega,rfl,rfl,rfl,rfl,Ab rfl,rfl⟩
 case round=>
  obtain ⟨k,n,wi,ta,hkg,rfl,rfl,rfl,rfl,HP,hw⟩:=hrel
  have HW:=Ab hw
  clear hw
  cases gk with
  | zero=>
   have e1:(s.size:Int)=(k:Int):=by omega
   have hks:s.size≤k:=by omega
   have HE:=Ab (Ni s k (Id s.data.toList k) wi ta hks)
   have HF:=Ab (Is ((Aa HP).trans (Aa HE)))
   have hkk:k=s.size:=by omega
   subst hkk
   clear HE e1 hks
   go_wp2_with (go_at_call 134;refine (Hk _ _ (by first | assumption | (rw [ByteArray.size_extract];omega))).mono ?_;rintro e w' ⟨rfl,rfl⟩)
   all_goals (try rw [Exit.noGoto_ret])
   all_goals go_ret
   all_goals refine ⟨Im ?_,n,Aa HW⟩
   all_goals rw [Aa HF]
   all_goals first | rfl | rw [Lj]
  | succ g'=>
   have hlt:k<s.size:=by omega
   have hlt':(k:Int)<(s.size:Int):=by omega
   have HS:=Ab ((Aa HP).trans (Lu s k wi ta hlt))
   have hki:IntKind.i64.wrap ((k:Int)+1)=(k:Int)+1:=IntWalk.i64_in _ (by omega)
   clear HP
   cases ta with
   | true=>
    rw [if_pos rfl] at HS
    go_wp2
    go_roundg g'
    case measure=>omega
    case rel=>exact ⟨k+1,n,wi,false,by omega,rfl,rfl,rfl,by go_num,HS,Aa HW⟩
   | false=>
    rw [if_neg (by simp)] at HS
    cases wi with
    | true=>
     by_cases c92:(s[k] == 92)=true
     ·have j92:((s[k].toNat:Int) == 92)=true:=by rw [Vn];exact c92
      rw [if_pos (by rw [c92];rfl)] at HS
      clear c92
      go_wp2
      go_roundg g'
      case measure=>omega
      case rel=>exact ⟨k+1,n,true,true,by omega,rfl,rfl,rfl,by go_num,HS,Aa HW⟩
     ·have c92':(s[k] == 92)=false:=by simpa using c92
      have j92:((s[k].toNat:Int) == 92)=false:=by rw [Vn];exact c92'
      rw [if_neg (by rw [c92'];simp)] at HS
      clear c92 c92'
      by_cases c34:(s[k] == 34)=true
      ·have j34:((s[k].toNat:Int) == 34)=true:=by rw [Va];exact c34
       rw [if_pos c34] at HS
       clear c34
       go_wp2
       go_roundg g'
       case measure=>omega
       case rel=>exact ⟨k+1,n,false,false,by omega,rfl,rfl,rfl,by go_num,HS,Aa HW⟩
      ·have c34':(s[k] == 34)=false:=by simpa using c34
       have j34:((s[k].toNat:Int) == 34)=false:=by rw [Va];exact c34'
       rw [if_neg c34,if_pos (by simp)] at HS
       clear c34 c34'
       go_wp2
       go_roundg g'
       case measure=>omega
       case rel=>exact ⟨k+1,n,true,false,by omega,rfl,rfl,rfl,by go_num,HS,Aa HW⟩
    | false=>
     rw [if_neg (by simp)] at HS
     by_cases c34:(s[k] == 34)=true
     ·have j34:((s[k].toNat:Int) == 34)=true:=by rw [Va];exact c34
      rw [if_pos c34] at HS
      clear c34
      go_wp2
      go_roundg g'
      case measure=>omega
      case rel=>exact ⟨k+1,n,true,false,by omega,rfl,rfl,rfl,by go_num,HS,Aa HW⟩
     ·have c34':(s[k] == 34)=false:=by simpa using c34
      have j34:((s[k].toNat:Int) == 34)=false:=by rw [Va];exact c34'
      rw [if_neg c34] at HS
      clear c34 c34'
      by_cases c35:(s[k] == 35)=true
      ·have j35:((s[k].toNat:Int) != 35)=false:=by rw [bne,Vp,c35];rfl
       rw [if_neg (by rw [bne,c35];simp)] at HS
       clear c35
       cases k with
       | zero=>
        rw [if_pos (show Id s.data.toList 0=true from rfl)] at HS
        have HF:=Ab (Is (Aa HS))
        clear HS
        go_wp2
        go_quiet (fail)
        go_wp2_with (go_at_call 134;refine (Hk ByteArray.empty _ (by decide)).mono ?_;rintro e w' ⟨rfl,rfl⟩)
        all_goals (try rw [Exit.noGoto_ret])
        all_goals go_ret
        all_goals refine ⟨Im ?_,_,by rw [Aa HW,World.drewN_drewN]⟩
        all_goals rw [Aa HF]
        all_goals first | rfl | (rw [show s.extract 0 0=ByteArray.empty from by rw [Lib.extract_eq];rfl];rfl) | (simp;rfl)
       | succ k'=>
        have hlt2:k'<s.size:=by omega
        have hlt3:(k':Int)<(s.size:Int):=by omega
        have hkm:IntKind.i64.wrap (k':Int)=(k':Int):=IntWalk.i64_in _ (by omega)
        have hkz:((k':Int)+1 == 0)=false:=by simp;omega
        have hbl:=Ko s k' hlt2
        rw [hbl] at HS
        by_cases c32:(s[k'] == 32)=true
        ·have j32:((s[k'].toNat:Int) == (((⟨#[32]⟩:ByteArray)[0]'(by decide)).toNat:Int))=true:=by show ((s[k'].toNat:Int) == 32)=true;rw [i32];exact c32
         have hex:(s.extract 0 (k'+1)).size≤1099511627776:=by rw [ByteArray.size_extract];omega
         rw [if_pos c32] at HS
         have HF:=Ab (Is (Aa HS))
         clear c32 HS hbl
         go_wp2
         go_quiet (fail)
         go_wp2_with (go_at_call 134;refine (Hk (s.extract 0 (k'+1)) _ hex).mono ?_;rintro e w' ⟨rfl,rfl⟩)
         all_goals (try rw [Exit.noGoto_ret])
         all_goals go_ret
         all_goals refine ⟨Im ?_,_,by rw [Aa HW,World.drewN_drewN]⟩
         all_goals rw [Aa HF]
         all_goals (rw [Lib.extract_data];try simp)
        ·have c32':(s[k'] == 32)=false:=by simpa using c32
         have j32:((s[k'].toNat:Int) == (((⟨#[32]⟩:ByteArray)[0]'(by decide)).toNat:Int))=false:=by show ((s[k'].toNat:Int) == 32)=false;rw [i32];exact c32'
         rw [if_neg c32] at HS
         clear c32 c32' hbl
         go_wp2
         go_quiet (fail)
         go_wp2_with fail
         go_roundg g'
         case measure=>omega
         case rel=>exact ⟨k'+1+1,_,false,false,by omega,rfl,rfl,rfl,by go_num,HS,by rw [Aa HW,World.drewN_drewN]⟩
      ·have c35':(s[k] == 35)=false:=by simpa using c35
       have j35:((s[k].toNat:Int) != 35)=true:=by rw [bne,Vp,c35'];rfl
       rw [if_pos (by rw [bne,c35'];rfl)] at HS
       clear c35 c35'
       go_wp2
       go_roundg g'
       case measure=>omega
       case rel=>exact ⟨k+1,n,false,false,by omega,rfl,rfl,rfl,by go_num,HS,Aa HW⟩
end Go.Proofs.YtnjokdbblmlhhaaGreatDoor
namespace Go.Proofs.YtnjokdbblmlhhaaGreatDoor
set_option linter.unusedVariables false
set_option linter.unusedSimpArgs false
open Go.RowKit Go.Shelf
attribute [local go_sem] Oper.semAt_some
def Ew (s:List UInt8):Option Nat:=(Bk s).findIdx? (·.any oddB)
def Bv (s:List UInt8):Int × Int:=
 if 1048576<s.length then (2,0)
 else if 0≤P03.first s then (9,(Lib.countByte (s.take (P03.first s).toNat) 10:Int)+1)
 else match Ew s with
  | some i=>(3,(i:Int)+1)
  | none=>(0,0)
def D3 (f:Int × Int):Value:=.agg #[.int .i64 f.1,.int .i64 f.2]
theorem H8:∀ (f p:Nat) (l:List UInt8),P03.firstBad f p l≤(p:Int)+l.length
 | 0,p,l=>by unfold P03.firstBad;omega
 | f+1,p,l=>by
  unfold P03.firstBad
  split
  ·omega
  ·split
   ·omega
   ·rename_i h0 h1
    have h2:=P03.one_bd l (by omega)
    have h3:=H8 f (p+(P03.one l).1.toNat) (l.drop (P03.one l).1.toNat)
    rw [List.length_drop] at h3
    omega
theorem Si (l:List UInt8):P03.first l≤l.length:=by
 have:=H8 (l.length+1) 0 l
 unfold P03.first
 omega
theorem Da {W:World} {g:Nat} {t:TypeId} {a b:Value} (h:W.heap[g]?=some (.cells #[a,b] t)) (v:Value):(W.setCell ⟨g,0,none⟩ v).heap[g]?=some (.cells #[v,b] t):=by
 obtain ⟨hlt,hk⟩:=Array.getElem?_eq_some_iff.1 h
 show (W.heap.modify g _)[g]?=_
 rw [Array.getElem?_eq_getElem (by rw [Array.size_modify];exact hlt),Array.getElem_modify_self,hk]
 rfl
theorem Db {W:World} {g:Nat} {t:TypeId} {a b:Value} (h:W.heap[g]?=some (.cells #[a,b] t)) (v:Value):(W.setCell ⟨g,1,none⟩ v).heap[g]?=some (.cells #[a,v] t):=by
 obtain ⟨hlt,hk⟩:=Array.getElem?_eq_some_iff.1 h
 show (W.heap.modify g _)[g]?=_
 rw [Array.getElem?_eq_getElem (by rw [Array.size_modify];exact hlt),Array.getElem_modify_self,hk]
 rfl
theorem A9 {W:World} {g:Nat} {t:TypeId} {a b:Value} (h:W.heap[g]?=some (.cells #[a,b] t)):W.cell? ⟨g,0,none⟩=some a∧W.frozen? ⟨g,0,none⟩=false:=by simp [World.cell?,World.frozen?,h]
theorem A8 {W:World} {g:Nat} {t:TypeId} {a b:Value} (h:W.heap[g]?=some (.cells #[a,b] t)):W.cell? ⟨g,1,none⟩=some b∧W.frozen? ⟨g,1,none⟩=false:=by simp [World.cell?,World.frozen?,h]
theorem Ap (W:World) (g i:Nat) (v:Value):W.grownBy (W.setCell ⟨g,i,none⟩ v) (some g):=
 ⟨rfl,rfl,rfl,(KeepsWalks.setCell W _ v).size,fun k _ hk=>Below.heap_setCell _ _ _ k (fun e=>hk (by rw [e]))⟩
set_option maxRecDepth 100000 in
set_option maxHeartbeats 2000000 in
theorem Qc (s:ByteArray) (w:World) (hs:s.size≤1048576) (hf:0≤P03.first s.data.toList) :
  Calls Tryz.prog 98 #[.string s] w fun e w'=>e=.returned (D3 (Bv s.data.toList))∧Below w.heap.size w w':=by
 have hlen:s.data.toList.length=s.size:=(Lib.size_eq s).symm
 obtain ⟨k,hk⟩:=Int.eq_ofNat_of_zero_le hf
 have hks:k≤s.size:=by have:=Si s.data.toList;omega
 have hks':(k:Int)≤(s.size:Int):=by omega
 obtain ⟨c,hc⟩:∃ c:Nat,Lib.countByte (s.extract 0 k).data.toList 10=c:=⟨_,rfl⟩
 have hcl:c≤1048576:=by
  rw [← hc,Lib.countByte]
  refine Nat.le_trans (List.count_le_length) ?_
  rw [← Lib.size_eq,ByteArray.size_extract]
  omega
 have hch:Bv s.data.toList=(9,(c:Int)+1):=by
  rw [Bv,if_neg (by omega),if_pos hf,hk,Int.toNat_natCast,← hc,Lib.extract_data,List.drop_zero,Nat.sub_zero]
 have hw1:IntKind.i64.wrap ((c:Int)+1)=(c:Int)+1:=IntWalk.i64_in _ (by omega)
 rw [hch]
 have HC:=Ab hc
 have HK:=Ab hk
 clear hc hch hf hk
 refine (callsIn_wide (n:=40)).1 ?_
 refine callsIn_of_wp_marks Tryz.func98 rfl trivial ?_ rfl
 simp only [Tryz.ntmps98,List.size_toArray,List.length_cons,List.length_nil,Nat.reduceAdd,Nat.reduceSub,Array.replicate_succ,Array.replicate_zero,List.push_toArray,List.append_toArray,List.nil_append,List.cons_append]
 gi_wp2_with (first
  | (refine ⟨trivial,?_⟩;gi_at_call 82;refine (callsIn_wide.2 (Ho s _ (by omega))).mono ?_;rintro e w' ⟨rfl,hb⟩;rw [Aa HK];have hR:w'.heap[w.heap.size]?=some (.cells #[.int .i64 0,.int .i64 0] 29):=(hb.block _ (by simp)).trans (World.alloc_heap_new w _);have hc0:=(A9 hR).1;have hf0:=(A9 hR).2;have hc1:=(A8 hR).1;have hf1:=(A8 hR).2)
  | (refine ⟨trivial,?_⟩;gi_at_call 129;refine (callsIn_wide.2 (Tryz.strings_Count_one (s.extract 0 k) 10 _)).mono ?_;rintro e w'' ⟨rfl,rfl⟩;rw [Aa HC]))
 refine ⟨_,results_cell_row rfl _ _ _ _ _ _ _ rfl (Db (Da hR _) _) Tryz.underlying29 rfl (by kernel_rfl),rfl,?_⟩
 have hbw:Below w.heap.size w w'':=((Below.refl _ w).alloc (Nat.le_refl _) _).trans (hb.mono (by simp))
 exact (hbw.grown (Ap w'' w.heap.size 0 _) hbw.size (fun k e=>by cases e;exact Nat.le_refl _)).grown (Ap _ w.heap.size 1 _) (Nat.le_trans hbw.size (Ap w'' w.heap.size 0 _).size) (fun k e=>by cases e;exact Nat.le_refl _)
theorem Bo.of_below {T:Nat→Prop} {V V':World} (h:Below V.heap.size V V'):Bo T V V':=⟨h.size,fun r _ hl=>h.block r hl⟩
theorem Bq {w V:World} (h:Below w.heap.size w V) (i:Nat) (v:Value) {D:Nat} (hD:w.heap.size≤D):Below w.heap.size w (V.setCell ⟨D,i,none⟩ v):=
 h.grown (Ap V D i v) h.size (fun k e=>by cases e;exact hD)
theorem G6 {s:List UInt8} {i:Nat} {x:Nat × List UInt8} (h:(Cz s)[i]?=some x):x.1=i+1∧(Bk s)[i]?=some x.2:=by
 unfold Cz at h
 rw [List.getElem?_map,List.getElem?_zipIdx] at h
 unfold Bk
 rw [List.getElem?_map]
 cases hr:(C7 s)[i]? with
 | none=>rw [hr] at h;simp at h
 | some l=>rw [hr] at h;simp at h;subst h;exact ⟨rfl,rfl⟩
theorem Ks {s:List UInt8} {i:Nat} {l:List UInt8} (h0:∀ j l,j<i→(Bk s)[j]?=some l→l.any oddB=false) (h:(Bk s)[i]?=some l) (ho:l.any oddB=true):Ew s=some i:=by
 unfold Ew
 obtain ⟨hi,hl⟩:=List.getElem?_eq_some_iff.1 h
 rw [List.findIdx?_eq_some_iff_getElem]
 refine ⟨hi,by rw [hl];exact ho,fun j hj=>?_⟩
 rw [h0 j _ hj (List.getElem?_eq_getElem (Nat.lt_trans hj hi))]
 simp
theorem K7 {s:List UInt8} (h0:∀ j l,j<(Bk s).length→(Bk s)[j]?=some l→l.any oddB=false):Ew s=none:=by
 unfold Ew
 rw [List.findIdx?_eq_none_iff]
 intro l hl
 obtain ⟨j,hj,rfl⟩:=List.mem_iff_getElem.1 hl
 exact h0 j _ hj (List.getElem?_eq_getElem hj)
theorem F3 (s:List UInt8):(Cz s).length=(Bk s).length:=by rw [Ff];simp [Bk]
theorem Gq {s l:List UInt8} (h:l∈Bk s):l.length≤s.length:=by
 unfold Bk at h
 obtain ⟨r,hr,rfl⟩:=List.mem_map.1 h
 have:=Iv s r hr
 unfold Ib
 split
 ·simp;omega
 ·exact this
set_option maxRecDepth 100000 in
set_option maxHeartbeats 2000000 in
theorem Oa (s:ByteArray) (w:World) (hs:s.size≤1048576) (hf:P03.first s.data.toList<0) :
  Calls Tryz.prog 98 #[.string s] w fun e w'=>e=.returned (D3 (Bv s.data.toList))∧Below w.heap.size w w':=by
 have hlen:s.data.toList.length=s.size:=(Lib.size_eq s).symm
 obtain ⟨R,hRR⟩:∃ R,Bv s.data.toList=R:=⟨_,rfl⟩
 have hch1:∀ j,Ew s.data.toList=some j→R=(3,(j:Int)+1):=fun j hj=>by
  rw [← hRR,Bv,if_neg (by omega),if_neg (by omega),hj]
 have hch0:Ew s.data.toList=none→R=(0,0):=fun hj=>by
  rw [← hRR,Bv,if_neg (by omega),if_neg (by omega),hj]
 rw [hRR]
 have HR1:=Ab hch1
 have HR0:=Ab hch0
 clear hch1 hch0 hRR
 have HK:=Ab hf
 refine (callsIn_wide (n:=40)).1 ?_
 refine callsIn_of_wp_marks Tryz.func98 rfl trivial ?_ rfl
 simp only [Tryz.ntmps98,List.size_toArray,List.length_cons,List.length_nil,Nat.reduceAdd,Nat.reduceSub,Array.replicate_succ,Array.replicate_zero,List.push_toArray,List.append_toArray,List.nil_append,List.cons_append]
 generalize hp:P03.first s.data.toList=p at hf
 gi_wp2_with (first
  | (refine ⟨trivial,?_⟩;gi_at_call 82;refine (callsIn_wide.2 (Ho s _ (by omega))).mono ?_;rintro e w' ⟨rfl,hb⟩;rw [hp];have hR:w'.heap[w.heap.size]?=some (.cells #[.int .i64 0,.int .i64 0] 29):=(hb.block _ (by simp)).trans (World.alloc_heap_new w _);have hbw:Below w.heap.size w w':=((Below.refl _ w).alloc (Nat.le_refl _) _).trans (hb.mono (by simp));clear hb)
  | (refine ⟨trivial,?_⟩;gi_at_call 99;refine (callsIn_wide.2 (Kn s _)).mono ?_;rintro e w' ⟨rfl,rfl⟩))
 have hlt:w.heap.size<w'.heap.size:=(Array.getElem?_eq_some_iff.1 hR).1
 obtain ⟨b,hb⟩:∃ b,w'.heap.size=b:=⟨_,rfl⟩
 have hb1:Boxed (w'.alloc (.cells #[.string s] 9)) b 9 (.string s):=by rw [← hb];exact Boxed.new _ _ _
 have hR2:(w'.alloc (.cells #[.string s] 9)).heap[w.heap.size]?=some (.cells #[.int .i64 0,.int .i64 0] 29):=(Below.heap_alloc _ _ _ hlt).trans hR
 have hbw2:Below w.heap.size w (w'.alloc (.cells #[.string s] 9)):=hbw.alloc hbw.size _
 obtain ⟨W2,hW2⟩:∃ W2,w'.alloc (.cells #[.string s] 9)=W2:=⟨_,rfl⟩
 have hsz:W2.heap.size=b+1:=by rw [← hW2,← hb];simp
 rw [hW2] at hb1 hR2 hbw2 ⊢
 rw [hb] at hlt ⊢
 clear hW2 hR hbw hb
 refine Dy rfl (by omega) (gf:=131) (lb:=#[.pointer (some ⟨b,0,none⟩)]) rfl trivial (enters_of Tryz.func131 (by kernel_rfl) rfl)
  (encs:=Se) (Cz s.data.toList) (fun _=>False) 5 (fun r hr=>hr.elim)
  (fun V hg hV=>Gh (40 - 1) s _ _ V (hb1.kept hg (by simp)).cell (fun r h1 h2=>.inr ⟨by omega,by omega⟩) (by omega) (by omega)) (fun _=>rfl)
  (fun i V=>V.heap[w.heap.size]?=some (.cells #[.int .i64 0,.int .i64 0] 29)∧Below w.heap.size w V∧Hid (∀ j l,j<i→(Bk s.data.toList)[j]?=some l→l.any oddB=false))
  (fun c i V=>c=.ret∧∃ j:Nat,V.heap[w.heap.size]?=some (.cells #[.int .i64 3,.int .i64 ((j:Int)+1)] 29)∧Below w.heap.size w V∧Hid (Ew s.data.toList=some j))
  (fun i V V' row h hg hr=>⟨(hg.block _ (Array.getElem?_eq_some_iff.1 h.1).1 (fun e=>by rcases hr _ e.symm with h3 | h3;exact h3.elim;omega)).trans h.1,h.2.1.grown hg h.2.1.size (fun k e=>by rcases hr k e with h3 | h3;exact h3.elim;omega),h.2.2⟩)
  (fun c i V V' row h hg hr=>by
   obtain ⟨hc,j,h1,h2,h3⟩:=h
   exact ⟨hc,j,(hg.block _ (Array.getElem?_eq_some_iff.1 h1).1 (fun e=>by rcases hr _ e.symm with h3 | h3;exact h3.elim;omega)).trans h1,h2.grown hg h2.size (fun k e=>by rcases hr k e with h3 | h3;exact h3.elim;omega),h3⟩)
  ⟨hR2,hbw2,Ab (fun j l hj=>absurd hj (Nat.not_lt_zero _))⟩
  (fun x=>{ tmps:=#[.string s,undef,.pointer (some ⟨w.heap.size,0,none⟩),.int .i64 p,.int .i64 x.1,C0 x.2,.string s,.int .i64 s.size,.bool (decide ((1048576:Int)<(s.size:Int))),undef,.string s,.int .i64 p,.int .i64 p,.bool (decide ((0:Int)≤p)),undef,undef,undef,undef,undef,undef,.string s,
   .func (.func 131) #[] #[.pointer (some ⟨b,0,none⟩)],.int .i64 x.1,C0 x.2,undef,undef,undef,undef,undef],defers:=[] }) ?assign ?body ?done ?stop
 case assign=>
  intro l2 x V K hK
  unfold Se
  gi_wp2
  exact hK
 case body=>
  rintro l2 i x V hx ⟨hc1,hc2,HO⟩ hV
  obtain ⟨hx1,hx2⟩:=G6 hx
  have hxl:x.2.length≤1099511627776:=Nat.le_trans (Gq (List.mem_of_getElem? hx2)) (by omega)
  obtain ⟨n1,l⟩:=x
  simp only at hx1 hx2 hxl
  subst hx1
  have HX:=Ab hx2
  clear hx hx2
  unfold C0
  have hn2:1≤40 - 1 - 1:=by omega
  cases ho:l.any oddB with
  | true=>
   have HB:=Ab ho
   clear ho
   gi_wp2_with (refine ⟨trivial,?_⟩;gi_at_call 130;refine (CallsIn.inRound l2 (callsIn_wide.2 (Pa ⟨l.toArray⟩ _ hxl))).mono ?_;rintro e w3 ⟨rfl,hb3⟩;rw [show (⟨l.toArray⟩:ByteArray).data.toList.any oddB=true from Aa HB];have hr3:w3.heap[w.heap.size]?=some (.cells #[.int .i64 0,.int .i64 0] 29):=(hb3.block _ (Array.getElem?_eq_some_iff.1 hc1).1).trans hc1;have hd0:=(A9 hr3).1;have hg0:=(A9 hr3).2;have hd1:=(A8 hr3).1;have hg1:=(A8 hr3).2)
   refine ⟨((Bo.of_below hb3).trans (.of_grownBy (Ap w3 _ 0 _) (fun r e hr=>by cases e;rcases hr with hr | hr;exact hr;omega))).trans (.of_grownBy (Ap _ _ 1 _) (fun r e hr=>by cases e;rcases hr with hr | hr;exact hr;omega)),
    rfl,i,Db (Da hr3 _) _,Bq (Bq (hc2.trans (hb3.mono hc2.size)) 0 _ (Nat.le_refl _)) 1 _ (Nat.le_refl _),Ab (Ks (Aa HO) (Aa HX) (Aa HB))⟩
  | false=>
   have HB:=Ab ho
   clear ho
   gi_wp2_with (refine ⟨trivial,?_⟩;gi_at_call 130;refine (CallsIn.inRound l2 (callsIn_wide.2 (Pa ⟨l.toArray⟩ _ hxl))).mono ?_;rintro e w3 ⟨rfl,hb3⟩;rw [show (⟨l.toArray⟩:ByteArray).data.toList.any oddB=false from Aa HB];have hr3:w3.heap[w.heap.size]?=some (.cells #[.int .i64 0,.int .i64 0] 29):=(hb3.block _ (Array.getElem?_eq_some_iff.1 hc1).1).trans hc1;have hd0:=(A9 hr3).1;have hg0:=(A9 hr3).2;have hd1:=(A8 hr3).1;have hg1:=(A8 hr3).2)
   refine ⟨Bo.of_below hb3,hr3,hc2.trans (hb3.mono hc2.size),Ab (fun j l' hj hl'=>?_)⟩
   rcases Nat.lt_or_ge j i with h4 | h4
   ·exact Aa HO j l' h4 hl'
   ·obtain rfl:j=i:=by omega
    rw [Aa HX] at hl'
    cases hl'
    exact Aa HB
 case done=>
  rintro D V rfl ⟨hc1,hc2,HO⟩ hK
  have hd0:=(A9 hc1).1
  have hg0:=(A9 hc1).2
  have hd1:=(A8 hc1).1
  have hg1:=(A8 hc1).2
  have HN:=Ab (K7 (fun j l hj hl=>Aa HO j l (by rw [F3];exact hj) hl))
  gi_wp2
  have hK2:((V.setCell ⟨w.heap.size,0,none⟩ (.int .i64 0)).setCell ⟨w.heap.size,1,none⟩ (.int .i64 0)).heap[W2.heap.size]?=some (.deferred (some [])):=
   (Below.heap_setCell _ _ _ _ (by show W2.heap.size≠w.heap.size;omega)).trans ((Below.heap_setCell _ _ _ _ (by show W2.heap.size≠w.heap.size;omega)).trans hK)
  refine ⟨by simp,.inl ⟨_,_,rfl,run_takeDeferred hK2,?_⟩⟩
  refine ⟨_,results_cell_row rfl _ _ _ _ _ _ _ rfl ((World.putObj_heap_other (by omega)).trans (Db (Da hc1 _) _)) Tryz.underlying29 rfl (by kernel_rfl),?_,Fj (Bq (Bq hc2 0 _ (Nat.le_refl _)) 1 _ (Nat.le_refl _)) _ (by omega)⟩
  rw [Aa HR0 (Aa HN)]
  rfl
 case stop=>
  rintro D c i V rfl hi ⟨rfl,j,hc1,hc2,HO⟩ hK
  gi_wp2
  refine ⟨by simp,.inl ⟨_,_,rfl,run_takeDeferred hK,?_⟩⟩
  refine ⟨_,results_cell_row rfl _ _ _ _ _ _ _ rfl ((World.putObj_heap_other (by omega)).trans hc1) Tryz.underlying29 rfl (by kernel_rfl),?_,Fj hc2 _ (by omega)⟩
  rw [Aa HR1 j (Aa HO)]
  rfl
theorem Kj (s:ByteArray) (w:World) (hs:s.size≤1048576) :
  Calls Tryz.prog 98 #[.string s] w fun e w'=>e=.returned (D3 (Bv s.data.toList))∧Below w.heap.size w w':=by
 by_cases hf:0≤P03.first s.data.toList
 ·exact Qc s w hs hf
 ·exact Oa s w hs (by omega)
end Go.Proofs.YtnjokdbblmlhhaaGreatDoor
namespace Go.Proofs.YtnjokdbblmlhhaaGreatDoor
set_option linter.unusedVariables false
set_option linter.unusedSimpArgs false
open Go.RowKit Go.Shelf
attribute [local go_sem] Oper.semAt_some
def Dv (k:Nat) (l:List UInt8):Option (Nat × Nat × List UInt8):=
 if Fo (C1 l)=[] then none else some (k+1,(C1 l).length - (Fo (C1 l)).length,Fo (C1 l))
def Bh:Nat→List (List UInt8)→List (Nat × Nat × List UInt8)
 | _,[]=>[]
 | k,l :: r=>match Dv k l with
  | none=>Bh (k+1) r
  | some x=>x :: Bh (k+1) r
def Dz (s:List UInt8):List (Nat × Nat × List UInt8):=Bh 0 (Bk s)
theorem Gl:∀ (k:Nat) (ls:List (List UInt8)) (l:List UInt8),Bh k (ls ++ [l])=Bh k ls ++ (Dv (k+ls.length) l).toList
 | k,[],l=>by
  show (match Dv k l with | none=>[] | some x=>[x])=(Dv k l).toList
  cases Dv k l<;>rfl
 | k,a :: r,l=>by
  have ih:=Gl (k+1) r l
  have e:k+1+r.length=k+(a :: r).length:=by simp;omega
  rw [e] at ih
  show (match Dv k a with | none=>Bh (k+1) (r ++ [l]) | some x=>x :: Bh (k+1) (r ++ [l]))=(match Dv k a with | none=>Bh (k+1) r | some x=>x :: Bh (k+1) r) ++ _
  cases Dv k a
  ·exact ih
  ·simp only;rw [ih];rfl
theorem G9:∀ (k:Nat) (ls:List (List UInt8)),(Bh k ls).length≤ls.length
 | k,[]=>Nat.le_refl _
 | k,a :: r=>by
  have ih:=G9 (k+1) r
  unfold Bh
  split<;>simp<;>omega
def Fx (r:Nat × Nat × List UInt8):List Value:=[.int .i64 r.1,.int .i64 r.2.1,C0 r.2.2]
def C2 (rs:List (Nat × Nat × List UInt8)):List Value:=rs.flatMap Fx
theorem I9 (rs:List (Nat × Nat × List UInt8)) (r:Nat × Nat × List UInt8):C2 (rs ++ [r])=C2 rs ++ Fx r:=by simp [C2]
def Rk (W:World) (base:Nat) (e:TypeId) (v:Value) (rs:List (Nat × Nat × List UInt8)):Prop:=W.ownsRow base e 3 v rs.length (C2 rs)
theorem Fm {W:World} {b b':Nat} {e:TypeId} {size n:Nat} {v:Value} {xs:List Value} (h:W.ownsRow b e size v n xs) (hb:b'≤b):W.ownsRow b' e size v n xs:=by
 refine ⟨h.1,?_⟩
 rcases h.2 with h1 | ⟨g,cap,cur,h1,h2,h3⟩
 ·exact .inl h1
 ·exact .inr ⟨g,cap,cur,h1,Nat.le_trans hb h2,h3⟩
theorem As {fn:Func} {p u:Tmp} {ty:TypeId} (h:fn.results=#[.tmp u,.cell p ty]) (tmps:Array Value) (P:Program) (w:World) (g:Nat) (v:Value)
  (hp:tmps.getD p undef=.pointer (some ⟨g,0,none⟩)) (hl:(loadVar ty ⟨g,0,none⟩).run P w=.ok v w) :
  (results fn tmps).run P w=.ok (.tuple #[tmps.getD u undef,v]) w:=by
 have hp':tmps[p]?.getD undef=.pointer (some ⟨g,0,none⟩):=by simpa using hp
 simp [results,h,hp',asAddr,Sem.run_bind,Result.andThen,hl]
theorem En {a:World} {B:Nat} {w:World} (h:Below B a w):Below B a w.drew:=⟨h.os,h.tape,h.output,h.size,h.block⟩
theorem Hi {a:World} {B n:Nat} {w:World} (h:Below B a w):Below B a (w.drewN n):=⟨h.os,h.tape,h.output,h.size,h.block⟩
theorem Mx {s:List UInt8} (h:(Bv s).1=0):Bv s=(0,0):=by
 unfold Bv at h ⊢
 split at h
 ·simp at h
 ·rename_i h1
  rw [if_neg h1]
  split at h
  ·simp at h
  ·rename_i h2
   rw [if_neg h2]
   split at h
   ·simp at h
   ·rfl
set_option maxRecDepth 100000 in
set_option maxHeartbeats 2000000 in
theorem Sz (s:ByteArray) (w:World) (hs:s.size≤1048576) (hf:(Bv s.data.toList).1≠0) :
  Calls Tryz.prog 63 #[.string s] w fun e w'=>e=.returned (.tuple #[.slice none 0 0,D3 (Bv s.data.toList)])∧Below w.heap.size w w':=by
 obtain ⟨R,hRR⟩:∃ R,Bv s.data.toList=R:=⟨_,rfl⟩
 rw [hRR] at hf ⊢
 obtain ⟨r1,r2⟩:=R
 have hne:(r1 != 0)=true:=by simpa using hf
 have HR:=Ab hRR
 clear hRR hf
 refine (callsIn_wide (n:=40)).1 ?_
 refine callsIn_of_wp_marks Tryz.func63 rfl trivial ?_ rfl
 simp only [Tryz.ntmps63,List.size_toArray,List.length_cons,List.length_nil,Nat.reduceAdd,Nat.reduceSub,Array.replicate_succ,Array.replicate_zero,List.push_toArray,List.append_toArray,List.nil_append,List.cons_append]
 gi_wp2_with (refine ⟨trivial,?_⟩;gi_at_call 98;refine (callsIn_wide.2 (Kj s _ hs)).mono ?_;rintro e w' ⟨rfl,hb⟩;rw [Aa HR];have hR:w'.heap[w.heap.size]?=some (.cells #[.int .i64 0,.int .i64 0] 29):=(hb.block _ (by simp)).trans (World.alloc_heap_new w _);have hbw:Below w.heap.size w w':=((Below.refl _ w).alloc (Nat.le_refl _) _).trans (hb.mono (by simp));clear hb;unfold D3)
 obtain ⟨W2,hW2⟩:∃ W2,w'.alloc (.cells #[.int .i64 r1,.int .i64 r2] 29)=W2:=⟨_,rfl⟩
 have hR2:W2.heap[w.heap.size]?=some (.cells #[.int .i64 0,.int .i64 0] 29):=by rw [← hW2];exact (Below.heap_alloc _ _ _ (Array.getElem?_eq_some_iff.1 hR).1).trans hR
 have hF2:W2.heap[w'.heap.size]?=some (.cells #[.int .i64 r1,.int .i64 r2] 29):=by rw [← hW2];exact World.alloc_heap_new w' _
 have hb2:Below w.heap.size w W2:=by rw [← hW2];exact hbw.alloc hbw.size _
 rw [hW2]
 have x0:=(A9 hR2).1
 have x1:=(A9 hR2).2
 have x2:=(A8 hR2).1
 have x3:=(A8 hR2).2
 have y0:=(A9 hF2).1
 have y2:=(A8 hF2).1
 clear hW2 hR
 gi_region
 gi_wp2
 refine ⟨_,As rfl _ _ _ _ _ rfl (run_loadVar_row _ _ _ _ _ _ _ (Db (Da hR2 _) _) Tryz.underlying29 rfl (by kernel_rfl)),rfl,?_⟩
 exact En (Bq (Bq hb2 0 _ (Nat.le_refl _)) 1 _ (Nat.le_refl _))
theorem Nc (l:List UInt8) (w:World) (h:l.length≤1099511627776) :
  Calls Tryz.prog 100 #[.string ⟨l.toArray⟩] w fun e w'=>∃ b:ByteArray,e=.returned (.string b)∧Hid (b.data.toList=C1 l)∧∃ n,w'=w.drewN n:=
 (Qp ⟨l.toArray⟩ w h).mono fun e w' ⟨h1,h2⟩=>⟨_,h1,rfl,h2⟩
theorem Iw (b:ByteArray) (w:World) :
  Calls Tryz.prog 101 #[.string b,.string ⟨#[32]⟩] w fun e w'=>∃ o:ByteArray,e=.returned (.string o)∧Hid (o.data.toList=Fo b.data.toList)∧w'=w:=
 (P8 b w).mono fun e w' ⟨h1,h2⟩=>⟨_,h1,rfl,h2⟩
theorem Do {W V:World} {row:Option Nat} {base:Nat} {e:TypeId} {size n:Nat} {v:Value} {xs:List Value} (h:W.ownsRow base e size v n xs) (hg:W.grownBy V row) (hr:∀ r,row=some r→r<base):V.ownsRow base e size v n xs:=by
 refine h.kept hg ?_
 cases hv:v.ownBlock with
 | none=>exact .inl rfl
 | some k=>
  refine .inr fun e=>?_
  have:=(h.lt k hv).1
  have:=hr k e.symm
  omega
theorem Rg:(Tryz.prog.info? 107).map (fun i=>(i.zero,i.size,i.bytes))=some (some (.agg #[.int .i64 0,.int .i64 0,.string ⟨#[]⟩]),3,32):=by kernel_rfl
theorem Ov (W:World) (a b c:Value) (t:TypeId):∀ j u,[a,b,c][j]?=some u→(W.alloc (.cells #[a,b,c] t)).cell? ((⟨W.heap.size,0,none⟩:Addr).add j)=some u:=by
 have key:∀ (X:World) (g:Nat),X.heap[g]?=some (.cells #[a,b,c] t)→X.cell? ⟨g,0,none⟩=some a∧X.cell? ⟨g,1,none⟩=some b∧X.cell? ⟨g,2,none⟩=some c:=by
  intro X g h
  simp [World.cell?,h]
 obtain ⟨k0,k1,k2⟩:=key _ _ (World.alloc_heap_new W (.cells #[a,b,c] t))
 intro j u h
 match j,h with
 | 0,h=>simp at h;subst h;exact k0
 | 1,h=>simp at h;subst h;exact k1
 | 2,h=>simp at h;subst h;exact k2
theorem Hr (l:List UInt8):(Fo l).length≤l.length:=(List.dropWhile_suffix _).length_le
theorem Hv (l:List UInt8):(C1 l).length≤l.length:=by
 unfold C1 Pl
 rw [List.length_reverse]
 refine Nat.le_trans ((List.dropWhile_suffix _).length_le) ?_
 rw [List.length_reverse,List.length_take]
 omega
theorem Jy {s:List UInt8} {i:Nat} {l:List UInt8} (h:(Bk s)[i]?=some l):Bh 0 ((Bk s).take (i+1))=Bh 0 ((Bk s).take i) ++ (Dv i l).toList:=by
 have hi:i<(Bk s).length:=(List.getElem?_eq_some_iff.1 h).1
 rw [List.take_add_one,h,show (some l).toList=[l] from rfl,Gl,List.length_take,Nat.zero_add,Nat.min_eq_left (Nat.le_of_lt hi)]
theorem Qu {i:Nat} {l:List UInt8} {tb ob:ByteArray} (HT:tb.data.toList=C1 l) (HO:ob.data.toList=Fo tb.data.toList) (hne:ob.data.toList≠[]) (hl:l.length≤1048576) :
  ∃ r,Dv i l=some r∧Fx r=[.int .i64 ((i:Int)+1),.int .i64 (wrap64 ((tb.size:Int) - (ob.size:Int))),.string ob]:=by
 have h1:ob.size≤tb.size:=by rw [Lib.size_eq,Lib.size_eq,HO];exact Hr _
 have h2:tb.size≤1048576:=by rw [Lib.size_eq,HT];exact Nat.le_trans (Hv l) hl
 rw [HT] at HO
 refine ⟨(i+1,tb.size - ob.size,ob.data.toList),?_,?_⟩
 ·rw [Dv,if_neg (by rw [← HO];exact hne),Lib.size_eq tb,Lib.size_eq ob,HT,HO]
 ·have h3:wrap64 ((tb.size:Int) - (ob.size:Int))=((tb.size - ob.size:Nat):Int):=by unfold wrap64;omega
  rw [h3]
  rfl
theorem R7 {i:Nat} {l:List UInt8} {tb ob:ByteArray} (HT:tb.data.toList=C1 l) (HO:ob.data.toList=Fo tb.data.toList) (hne:ob.data.toList=[]):Dv i l=none:=by
 rw [HT] at HO
 rw [Dv,if_pos (by rw [← HO];exact hne)]
theorem Kz {W:World} {B base:Nat} {e:TypeId} {size n:Nat} {v:Value} {xs:List Value} (h:W.ownsRow base e size v n xs) (hB:B<base):some B≠v.ownBlock:=fun e=>by have:=(h.lt B e.symm).1;omega
set_option maxRecDepth 100000 in
set_option maxHeartbeats 2000000 in
theorem Sl (s:ByteArray) (w:World) (hs:s.size≤1048576) (hf:(Bv s.data.toList).1=0) :
  Calls Tryz.prog 63 #[.string s] w fun e w'=>∃ v,e=.returned (.tuple #[v,D3 (0,0)])∧Rk w' w.heap.size 107 v (Dz s.data.toList)∧Below w.heap.size w w':=by
 have HR:=Ab (Mx hf)
 clear hf
 refine (callsIn_wide (n:=60)).1 ?_
 refine callsIn_of_wp_marks Tryz.func63 rfl trivial ?_ rfl
 simp only [Tryz.ntmps63,List.size_toArray,List.length_cons,List.length_nil,Nat.reduceAdd,Nat.reduceSub,Array.replicate_succ,Array.replicate_zero,List.push_toArray,List.append_toArray,List.nil_append,List.cons_append]
 gi_wp2_with (first
  | (refine ⟨trivial,?_⟩;gi_at_call 98;refine (callsIn_wide.2 (Kj s _ hs)).mono ?_;rintro e w' ⟨rfl,hb⟩;rw [Aa HR];have hR:w'.heap[w.heap.size]?=some (.cells #[.int .i64 0,.int .i64 0] 29):=(hb.block _ (by simp)).trans (World.alloc_heap_new w _);have hbw:Below w.heap.size w w':=((Below.refl _ w).alloc (Nat.le_refl _) _).trans (hb.mono (by simp));clear hb;unfold D3)
  | (refine ⟨trivial,?_⟩;gi_at_call 99;refine (callsIn_wide.2 (Kn s _)).mono ?_;rintro e w4 ⟨rfl,rfl⟩))
 have hlt:w.heap.size<w'.heap.size:=(Array.getElem?_eq_some_iff.1 hR).1
 obtain ⟨b,hb⟩:∃ b,w'.heap.size=b:=⟨_,rfl⟩
 obtain ⟨W2,hW2⟩:∃ W2,((w'.alloc (.cells #[.int .i64 0,.int .i64 0] 29)).alloc (.cells #[.slice none 0 0] 99)).alloc (.cells #[.string s] 9)=W2:=⟨_,rfl⟩
 have hsz:W2.heap.size=b+3:=by rw [← hW2,← hb];simp
 have b1:Boxed W2 (b+1) 99 (.slice none 0 0):=by
  rw [← hW2,← hb];have:=Boxed.new (w'.alloc (.cells #[.int .i64 0,.int .i64 0] 29)) 99 (.slice none 0 0);rw [World.size_alloc] at this;exact this.alloc _
 have b2:Boxed W2 (b+1+1) 9 (.string s):=by
  rw [← hW2,← hb];have:=Boxed.new ((w'.alloc (.cells #[.int .i64 0,.int .i64 0] 29)).alloc (.cells #[.slice none 0 0] 99)) 9 (.string s);rw [World.size_alloc,World.size_alloc] at this;exact this
 have hR2:W2.heap[w.heap.size]?=some (.cells #[.int .i64 0,.int .i64 0] 29):=by
  rw [← hW2];exact (Below.heap_alloc _ _ _ (by simp;omega)).trans ((Below.heap_alloc _ _ _ (by simp;omega)).trans ((Below.heap_alloc _ _ _ hlt).trans hR))
 have hbw2:Below w.heap.size w W2:=by
  rw [← hW2];exact ((hbw.alloc hbw.size _).alloc (by simp;omega) _).alloc (by simp;omega) _
 rw [hW2]
 rw [hb] at hlt ⊢
 clear hW2 hR hbw hb
 have hlen:s.data.toList.length=s.size:=(Lib.size_eq s).symm
 refine Dy rfl (by omega) (gf:=131) (lb:=#[.pointer (some ⟨b+1+1,0,none⟩)]) rfl trivial (enters_of Tryz.func131 (by kernel_rfl) rfl)
  (encs:=Se) (Cz s.data.toList) (fun _=>False) 5 (fun r hr=>hr.elim)
  (fun V hg hV=>Gh (60 - 1) s _ _ V (b2.kept hg (by simp)).cell (fun r h1 h2=>.inr ⟨by omega,by omega⟩) (by omega) (by omega)) (fun _=>rfl)
  (fun i V=>V.heap[w.heap.size]?=some (.cells #[.int .i64 0,.int .i64 0] 29)∧Below w.heap.size w V∧∃ v,Boxed V (b+1) 99 v∧Rk V (b+10) 107 v (Bh 0 ((Bk s.data.toList).take i)))
  (fun c i V=>False)
  (fun i V V' row h hg hr=>by
   obtain ⟨h1,h2,v,h3,h4⟩:=h
   exact ⟨(hg.block _ (Array.getElem?_eq_some_iff.1 h1).1 (fun e=>by rcases hr _ e.symm with h3 | h3;exact h3.elim;omega)).trans h1,h2.grown hg h2.size (fun k e=>by rcases hr k e with h3 | h3;exact h3.elim;omega),v,
    h3.kept hg (fun e=>by rcases hr _ e.symm with h3 | h3;exact h3.elim;omega),Do h4 hg (fun r e=>by rcases hr r e with h3 | h3;exact h3.elim;omega)⟩)
  (fun c i V V' row h hg hr=>h)
  ⟨hR2,hbw2,_,b1,World.ownsRow_nil _ _ _ _⟩
  (fun x=>{ tmps:=#[.string s,undef,.slice none 0 0,.pointer (some ⟨w.heap.size,0,none⟩),.pointer (some ⟨b,0,none⟩),.pointer (some ⟨b+1,0,none⟩),.int .i64 x.1,C0 x.2,undef,.string s,.agg #[.int .i64 0,.int .i64 0],.pointer (some ⟨b,0,none⟩),.int .i64 0,.bool false,undef,.string s,
   .func (.func 131) #[] #[.pointer (some ⟨b+1+1,0,none⟩)],.int .i64 x.1,C0 x.2,undef,undef,undef,undef,undef,undef,undef,undef,undef,undef,undef,undef,undef,undef,undef,undef,undef,undef,undef],defers:=[] }) ?assign ?body ?done ?stop
 case assign=>
  intro l2 x V K hK
  unfold Se
  gi_wp2
  exact hK
 case body=>
  rintro l2 i x V hx ⟨hc1,hc2,v,hv1,hv2⟩ hV
  obtain ⟨hx1,hx2⟩:=G6 hx
  have hxl:x.2.length≤1048576:=Nat.le_trans (Gq (List.mem_of_getElem? hx2)) (by omega)
  obtain ⟨n1,l⟩:=x
  simp only at hx1 hx2 hxl
  subst hx1
  have HX:=Ab hx2
  clear hx hx2
  unfold C0
  have hn2:1≤60 - 1 - 1:=by omega
  have hrl:(Bh 0 ((Bk s.data.toList).take i)).length≤1048576:=by
   refine Nat.le_trans (G9 _ _) ?_
   rw [List.length_take]
   have h1:(Bk s.data.toList).length≤s.data.toList.length:=by unfold Bk;rw [List.length_map];exact Ii _
   omega
  obtain ⟨i0,hi,hz0,hz1,hz2⟩:=info_parts Rg
  have hB1:(Bh 0 ((Bk s.data.toList).take i)).length+1≤maxLen:=by unfold maxLen;omega
  have hB2:((Bh 0 ((Bk s.data.toList).take i)).length+1) * 32≤140737488355328:=by omega
  have hvc:=hv1.cell
  have hvf:=hv1.frozen
  gi_wp2_with (first
   | (refine ⟨trivial,?_⟩;gi_at_call 100;refine (CallsIn.inRound l2 (callsIn_wide.2 (Nc l _ (by omega)))).mono ?_;rintro e w3 ⟨tb,rfl,HT,nd,rfl⟩)
   | (refine ⟨trivial,?_⟩;gi_at_call 101;refine (CallsIn.inRound l2 (callsIn_wide.2 (Iw tb _))).mono ?_;rintro e w3 ⟨ob,rfl,HO,rfl⟩)
   | (gi_at_builtin;refine wpListIn_append_own _ rfl _ _ 99 rfl (b+10) 107 i0 (.agg #[.int .i64 0,.int .i64 0,.string ⟨#[]⟩]) 3 32 Tryz.underlying99 hi hz0 hz1 hz2 rfl (by decide) _ _ _ rfl (World.ownsRow.alloc (show (V.drewN nd).ownsRow (b+10) 107 3 v _ _ from hv2) _) ⟨V.heap.size,0,none⟩ 1 1 [.int .i64 ((i:Int)+1),.int .i64 (wrap64 ((tb.size:Int) - (ob.size:Int))),.string ob] rfl rfl (Ov _ _ _ _ _) (by intro u hu;simp at hu;rcases hu with rfl | rfl | rfl<;>rfl) hB1 hB2 (by rw [World.size_alloc];show b+10≤V.heap.size+1;omega) ?_;intro v' w1 hown' hgrow _;obtain ⟨g',cap',rfl⟩:=ownsRow_succ hown';have hbx:=(Boxed.alloc (show Boxed (V.drewN nd) (b+1) 99 v from hv1) _).kept hgrow (Kz hv2 (by omega));have hbc:=hbx.cell;have hbf:=hbx.frozen))
  ·have hne:(!ob.toList.isEmpty)=true:=by assumption
   have hne2:ob.data.toList≠[]:=fun e=>by rw [Lib.toList_data,e] at hne;cases hne
   obtain ⟨r,hr1,hr2⟩:=Qu (i:=i) (Aa HT) (Aa HO) hne2 hxl
   have hstep:=Jy (Aa HX)
   rw [hr1] at hstep
   have hlo:∀ k,v.ownBlock=some k→b+10≤k:=fun k e=>(World.ownsRow.lt (show V.ownsRow (b+10) 107 3 v _ _ from hv2) k e).1
   have hq:w.heap.size<V.heap.size:=(Array.getElem?_eq_some_iff.1 hc1).1
   have hA:=(Hi (n:=nd) hc2).alloc hc2.size (.cells #[.int .i64 ((i:Int)+1),.int .i64 (wrap64 ((tb.size:Int) - (ob.size:Int))),.string ob] 107)
   have hG:=hA.grown hgrow hA.size (fun k e=>by have:=hlo k e;omega)
   refine ⟨(((show Bo _ V (V.drewN nd) from ⟨Nat.le_refl _,fun _ _ _=>rfl⟩).trans (Bo.alloc _ (V.drewN nd) _)).trans (.of_grownBy hgrow (fun r e hr=>by have:=hlo r e;rcases hr with hr | hr;exact hr;omega))).trans (.of_grownBy (grownBy_setCell' w1 (b+1) _) (fun r e hr=>by cases e;rcases hr with hr | hr;exact hr;omega)),?_,Oj hG _ (by omega),_,hbx.set _,?_⟩
   ·refine (Below.heap_setCell _ _ _ _ (by show w.heap.size≠b+1;omega)).trans ((hgrow.block _ (by rw [World.size_alloc];show w.heap.size<V.heap.size+1;omega) (fun e=>by have:=hlo _ e.symm;omega)).trans ((Below.heap_alloc (V.drewN nd) _ _ hq).trans hc1))
   ·rw [hstep]
    unfold Rk
    rw [show (some r).toList=[r] from rfl,I9,List.length_append,hr2]
    exact Do hown' (grownBy_setCell' w1 (b+1) _) (fun r e=>by cases e;omega)
  ·have hne:(!ob.toList.isEmpty)=false:=by assumption
   have hne2:ob.data.toList=[]:=by
    rw [Lib.toList_data] at hne
    cases hd:ob.data.toList with
    | nil=>rfl
    | cons a t=>rw [hd] at hne;cases hne
   have hstep:=Jy (Aa HX)
   rw [R7 (Aa HT) (Aa HO) hne2,show (none:Option (Nat × Nat × List UInt8)).toList=[] from rfl,List.append_nil] at hstep
   refine ⟨⟨Nat.le_refl _,fun _ _ _=>rfl⟩,hc1,Hi hc2,v,hv1,?_⟩
   rw [hstep]
   exact hv2
 case done=>
  rintro D V rfl ⟨hc1,hc2,v,hv1,hv2⟩ hK
  have hvc:=hv1.cell
  have x0:=(A9 hc1).1
  have x1:=(A9 hc1).2
  have x2:=(A8 hc1).1
  have x3:=(A8 hc1).2
  gi_wp2
  have hgr1:=Ap V w.heap.size 0 (.int .i64 0)
  have hgr2:=Ap (V.setCell ⟨w.heap.size,0,none⟩ (.int .i64 0)) w.heap.size 1 (.int .i64 0)
  have hK2:((V.setCell ⟨w.heap.size,0,none⟩ (.int .i64 0)).setCell ⟨w.heap.size,1,none⟩ (.int .i64 0)).heap[W2.heap.size]?=some (.deferred (some [])):=
   (Below.heap_setCell _ _ _ _ (by show W2.heap.size≠w.heap.size;omega)).trans ((Below.heap_setCell _ _ _ _ (by show W2.heap.size≠w.heap.size;omega)).trans hK)
  refine ⟨by simp,.inl ⟨_,_,rfl,run_takeDeferred hK2,?_⟩⟩
  refine ⟨_,As rfl _ _ _ _ _ rfl (run_loadVar_row _ _ _ _ _ _ _ ((World.putObj_heap_other (by omega)).trans (Db (Da hc1 _) _)) Tryz.underlying29 rfl (by kernel_rfl)),v,rfl,?_,Fj (Bq (Bq hc2 0 _ (Nat.le_refl _)) 1 _ (Nat.le_refl _)) _ (by omega)⟩
  have hrows:Bh 0 ((Bk s.data.toList).take (Cz s.data.toList).length)=Dz s.data.toList:=by
   rw [Dz,F3,List.take_of_length_le (Nat.le_refl _)]
  rw [hrows] at hv2
  exact Fm (Do (Do (Do hv2 hgr1 (fun r e=>by cases e;omega)) hgr2 (fun r e=>by cases e;omega)) (grownBy_putObj' _ W2.heap.size _) (fun r e=>by cases e;omega)) (by omega)
 case stop=>
  rintro D c i V rfl hi h hK
  exact h.elim
end Go.Proofs.YtnjokdbblmlhhaaGreatDoor
namespace Go.Proofs.YtnjokdbblmlhhaaGreatDoor
set_option linter.unusedVariables false
set_option linter.unusedSimpArgs false
open Go.RowKit Go.Shelf
theorem E8 {w:World} {B:Nat} {e:TypeId} {size n:Nat} {v:Value} {xs:List Value} (h:w.ownsRow B e size v n xs):∃ ao m cap,v=.slice ao m cap:=by
 rcases h.2 with ⟨hv,h0⟩ | ⟨g,cap,cur,hv,_⟩
 ·exact ⟨_,_,_,hv⟩
 ·exact ⟨_,_,_,hv⟩
end Go.Proofs.YtnjokdbblmlhhaaGreatDoor
