import Derived.Test.YtefokfbgpfcbkaaGreatGR18Z
import Derived.StillTailTactics
import Derived.Shelf.SlicesE.Kit
import Derived.Sort.WalkB12
import Derived.Lib.OwnBridge
set_option maxRecDepth 100000
set_option maxHeartbeats 1600000
set_option linter.unusedVariables false
set_option linter.unusedSimpArgs false
namespace Go.Proofs.YtefokfbgpfcbkaaGreat
open Go.RowKit Go.Shelf
attribute [local go_sem] Oper.semAt_some
def Ze(l:List UInt8):Value:=.string ⟨l.toArray⟩
end Go.Proofs.YtefokfbgpfcbkaaGreat
namespace Go.Proofs.YtefokfbgpfcbkaaGreat
open Go.RowKit Go.Shelf
attribute [local go_sem] Oper.semAt_some
end Go.Proofs.YtefokfbgpfcbkaaGreat
namespace Go.Proofs.YtefokfbgpfcbkaaGreat
open Go.RowKit Go.Shelf
attribute [local go_sem] Oper.semAt_some
end Go.Proofs.YtefokfbgpfcbkaaGreat
namespace Go.Proofs.YtefokfbgpfcbkaaGreat
open Go.RowKit
theorem Kq(n:Int)(w:World) :
  Calls Tryz.prog 214 #[.int .i32 n] w fun e w'=>e=.returned (.bool (P03.rune n))∧w'=w:=by
 go_enter Tryz.func214,Tryz.ntmps214
 go_wp2;all_goals go_ret
 all_goals refine⟨Ao ?_,rfl⟩
 all_goals rw[P03.rune,Bool.eq_iff_iff]
 all_goals simp
 all_goals omega
def Ka(w:World)(x:Int × Int)(e:Ending)(w':World):Prop:=e=.returned (.tuple #[.int .i64 x.1,.int .i32 x.2])∧w'=w
theorem Z7(s:ByteArray)(k:Nat)(w:World)(h:s.size≤2097152)(hk:k<s.size)(hlo:192≤s[k].toNat)(aI:s[k].toNat<224) :
  Calls Tryz.prog 190 #[.string s,.int .i64 (k:Int)] w (Ka w (P03.tailOf 1 ((s[k].toNat:Int)-192) 128 (s.data.toList.drop k))):=by
 have hb:=s[k].toNat_lt;have aM:(k:Int)<(s.size:Int):=by omega
 have I:=P03.drop_len s k;have HL:=Ab I;clear I;by_cases aK:(s.size:Int)-(k:Int)≤1
 ·go_enter Tryz.func190,Tryz.ntmps190
  go_wp2
  go_ret2
  rw[P03.tailOf_short (by rw[Aa HL];omega)];exact⟨rfl,rfl⟩
 ·have aA:((1:Nat):Int)<(((s.data.toList.drop k).length:Nat):Int):=by rw[Aa HL];omega
  have HS:=Ab aA;clear aA;go_enter Tryz.func190,Tryz.ntmps190
  go_wp2
  go_loopg [8,10] 1 (fun g s8 aB wx=>∃(j:Nat) (m:Int),j+g=2∧1≤j∧aB=.int .i64 (j:Int)∧s8=.int .i32 m∧Hid (P03.contLoop 1 ((s[k].toNat:Int)-192) ((s.data.toList.drop k).drop 1)=P03.contLoop g m ((s.data.toList.drop k).drop j))∧0≤m∧(m<8388608∧(j=3→m<131072)∧(j=2→m<2048)∧(j=1→m<32))∧wx=w)
  case atStart=>exact⟨1,_,rfl,by omega,rfl,rfl,rfl,by omega,by omega,rfl⟩
  case round=>
   obtain⟨j,m,Z,aG,rfl,rfl,HP,aL,hm,rfl⟩:=hrel;cases gk with
   |zero=>
    obtain rfl:j=2:=by omega
    have hfin:=P03.tailOf_some (least:=128) (Int.not_le.2 (Aa HS)) ((Aa HP).trans (P03.cont_0 _ _));have HF:=Ab hfin;clear hfin Z;by_cases hl:m<128
    ·go_wp2
     go_ret2
     rw[Aa HF,if_pos hl];exact⟨rfl,rfl⟩
    ·have aE:128≤m:=by omega
     cases hr:P03.rune m
     all_goals
      have HR:=Ab hr;go_wp2_with (go_at_call 214;refine(Kq _ _).mono ?_;rw[hr];rintro e w' ⟨rfl,rfl⟩)
      go_ret2
      rw[Aa HF,if_neg (by omega)]
      first
       |(rw[if_pos (Aa HR)];exact⟨rfl,rfl⟩)
       |(rw[if_neg (by rw[Aa HR];simp)];exact⟨rfl,rfl⟩)
   |succ g=>
    have HG:=Ab Z;have aO:j≤1:=by omega
    have aC:(j:Int)≤1:=by omega
    clear Z;have hkj:k+j<s.size:=by omega
    have aD:(k:Int)+(j:Int)<(s.size:Int):=by omega
    have aN:s[k+j].toNat<256:=s[k+j].toNat_lt;have g0:=P03.getD_drop s (k+j) hkj;rw[←zO]at g0;have H0:=Ab g0;clear g0;by_cases hc:(s[k+j].toNat:Int)<128∨192≤(s[k+j].toNat:Int)
    ·have hfin:=P03.tailOf_none (least:=128) (Int.not_le.2 (Aa HS)) ((Aa HP).trans (P03.cont_no (Aa H0) hc));have HF:=Ab hfin;clear hfin;rcases hc with hc|hc
     all_goals
      go_wp2
      go_ret2
      rw[Aa HF];exact⟨rfl,rfl⟩
    ·have J:=P03.cont_yes (r:=g) (n:=m) (Aa H0) hc;rw[zO,zO]at J;have HC:=Ab J;clear J;have aJ:¬(s[k+j].toNat:Int)<128:=by omega
     have aH:¬192≤(s[k+j].toNat:Int):=by omega
     clear hc;go_wp2;go_roundg g
     case measure=>omega
     case rel=>exact⟨j+1,m*64+(s[k+j].toNat:Int)-128,by have:=Aa HG;omega,by omega,by go_num,rfl,by show _=_;rw[Aa HP,zO,Aa HC];simp only[zO];rw[Nat.add_assoc],by omega,by omega,rfl⟩
theorem Z8(s:ByteArray)(k:Nat)(w:World)(h:s.size≤2097152)(hk:k<s.size)(hlo:224≤s[k].toNat)(aI:s[k].toNat<240) :
  Calls Tryz.prog 190 #[.string s,.int .i64 (k:Int)] w (Ka w (P03.tailOf 2 ((s[k].toNat:Int)-224) 2048 (s.data.toList.drop k))):=by
 have hb:=s[k].toNat_lt;have aM:(k:Int)<(s.size:Int):=by omega
 have I:=P03.drop_len s k;have HL:=Ab I;clear I;by_cases aK:(s.size:Int)-(k:Int)≤2
 ·go_enter Tryz.func190,Tryz.ntmps190
  go_wp2
  go_ret2
  rw[P03.tailOf_short (by rw[Aa HL];omega)];exact⟨rfl,rfl⟩
 ·have aA:((2:Nat):Int)<(((s.data.toList.drop k).length:Nat):Int):=by rw[Aa HL];omega
  have HS:=Ab aA;clear aA;go_enter Tryz.func190,Tryz.ntmps190
  go_wp2
  go_loopg [8,10] 2 (fun g s8 aB wx=>∃(j:Nat) (m:Int),j+g=3∧1≤j∧aB=.int .i64 (j:Int)∧s8=.int .i32 m∧Hid (P03.contLoop 2 ((s[k].toNat:Int)-224) ((s.data.toList.drop k).drop 1)=P03.contLoop g m ((s.data.toList.drop k).drop j))∧0≤m∧(m<8388608∧(j=3→m<131072)∧(j=2→m<2048)∧(j=1→m<32))∧wx=w)
  case atStart=>exact⟨1,_,rfl,by omega,rfl,rfl,rfl,by omega,by omega,rfl⟩
  case round=>
   obtain⟨j,m,Z,aG,rfl,rfl,HP,aL,hm,rfl⟩:=hrel;cases gk with
   |zero=>
    obtain rfl:j=3:=by omega
    have hfin:=P03.tailOf_some (least:=2048) (Int.not_le.2 (Aa HS)) ((Aa HP).trans (P03.cont_0 _ _));have HF:=Ab hfin;clear hfin Z;by_cases hl:m<2048
    ·go_wp2
     go_ret2
     rw[Aa HF,if_pos hl];exact⟨rfl,rfl⟩
    ·have aE:2048≤m:=by omega
     cases hr:P03.rune m
     all_goals
      have HR:=Ab hr;go_wp2_with (go_at_call 214;refine(Kq _ _).mono ?_;rw[hr];rintro e w' ⟨rfl,rfl⟩)
      go_ret2
      rw[Aa HF,if_neg (by omega)]
      first
       |(rw[if_pos (Aa HR)];exact⟨rfl,rfl⟩)
       |(rw[if_neg (by rw[Aa HR];simp)];exact⟨rfl,rfl⟩)
   |succ g=>
    have HG:=Ab Z;have aO:j≤2:=by omega
    have aC:(j:Int)≤2:=by omega
    clear Z;have hkj:k+j<s.size:=by omega
    have aD:(k:Int)+(j:Int)<(s.size:Int):=by omega
    have aN:s[k+j].toNat<256:=s[k+j].toNat_lt;have g0:=P03.getD_drop s (k+j) hkj;rw[←zO]at g0;have H0:=Ab g0;clear g0;by_cases hc:(s[k+j].toNat:Int)<128∨192≤(s[k+j].toNat:Int)
    ·have hfin:=P03.tailOf_none (least:=2048) (Int.not_le.2 (Aa HS)) ((Aa HP).trans (P03.cont_no (Aa H0) hc));have HF:=Ab hfin;clear hfin;rcases hc with hc|hc
     all_goals
      go_wp2
      go_ret2
      rw[Aa HF];exact⟨rfl,rfl⟩
    ·have J:=P03.cont_yes (r:=g) (n:=m) (Aa H0) hc;rw[zO,zO]at J;have HC:=Ab J;clear J;have aJ:¬(s[k+j].toNat:Int)<128:=by omega
     have aH:¬192≤(s[k+j].toNat:Int):=by omega
     clear hc;go_wp2;go_roundg g
     case measure=>omega
     case rel=>exact⟨j+1,m*64+(s[k+j].toNat:Int)-128,by have:=Aa HG;omega,by omega,by go_num,rfl,by show _=_;rw[Aa HP,zO,Aa HC];simp only[zO];rw[Nat.add_assoc],by omega,by omega,rfl⟩
theorem Z9(s:ByteArray)(k:Nat)(w:World)(h:s.size≤2097152)(hk:k<s.size)(hlo:240≤s[k].toNat)(aI:s[k].toNat<248) :
  Calls Tryz.prog 190 #[.string s,.int .i64 (k:Int)] w (Ka w (P03.tailOf 3 ((s[k].toNat:Int)-240) 65536 (s.data.toList.drop k))):=by
 have hb:=s[k].toNat_lt;have aM:(k:Int)<(s.size:Int):=by omega
 have I:=P03.drop_len s k;have HL:=Ab I;clear I;by_cases aK:(s.size:Int)-(k:Int)≤3
 ·go_enter Tryz.func190,Tryz.ntmps190
  go_wp2
  go_ret2
  rw[P03.tailOf_short (by rw[Aa HL];omega)];exact⟨rfl,rfl⟩
 ·have aA:((3:Nat):Int)<(((s.data.toList.drop k).length:Nat):Int):=by rw[Aa HL];omega
  have HS:=Ab aA;clear aA;go_enter Tryz.func190,Tryz.ntmps190
  go_wp2
  go_loopg [8,10] 3 (fun g s8 aB wx=>∃(j:Nat) (m:Int),j+g=4∧1≤j∧aB=.int .i64 (j:Int)∧s8=.int .i32 m∧Hid (P03.contLoop 3 ((s[k].toNat:Int)-240) ((s.data.toList.drop k).drop 1)=P03.contLoop g m ((s.data.toList.drop k).drop j))∧0≤m∧(m<8388608∧(j=3→m<131072)∧(j=2→m<2048)∧(j=1→m<32))∧wx=w)
  case atStart=>exact⟨1,_,rfl,by omega,rfl,rfl,rfl,by omega,by omega,rfl⟩
  case round=>
   obtain⟨j,m,Z,aG,rfl,rfl,HP,aL,hm,rfl⟩:=hrel;cases gk with
   |zero=>
    obtain rfl:j=4:=by omega
    have hfin:=P03.tailOf_some (least:=65536) (Int.not_le.2 (Aa HS)) ((Aa HP).trans (P03.cont_0 _ _));have HF:=Ab hfin;clear hfin Z;by_cases hl:m<65536
    ·go_wp2
     go_ret2
     rw[Aa HF,if_pos hl];exact⟨rfl,rfl⟩
    ·have aE:65536≤m:=by omega
     cases hr:P03.rune m
     all_goals
      have HR:=Ab hr;go_wp2_with (go_at_call 214;refine(Kq _ _).mono ?_;rw[hr];rintro e w' ⟨rfl,rfl⟩)
      go_ret2
      rw[Aa HF,if_neg (by omega)]
      first
       |(rw[if_pos (Aa HR)];exact⟨rfl,rfl⟩)
       |(rw[if_neg (by rw[Aa HR];simp)];exact⟨rfl,rfl⟩)
   |succ g=>
    have HG:=Ab Z;have aO:j≤3:=by omega
    have aC:(j:Int)≤3:=by omega
    clear Z;have hkj:k+j<s.size:=by omega
    have aD:(k:Int)+(j:Int)<(s.size:Int):=by omega
    have aN:s[k+j].toNat<256:=s[k+j].toNat_lt;have g0:=P03.getD_drop s (k+j) hkj;rw[←zO]at g0;have H0:=Ab g0;clear g0;by_cases hc:(s[k+j].toNat:Int)<128∨192≤(s[k+j].toNat:Int)
    ·have hfin:=P03.tailOf_none (least:=65536) (Int.not_le.2 (Aa HS)) ((Aa HP).trans (P03.cont_no (Aa H0) hc));have HF:=Ab hfin;clear hfin;rcases hc with hc|hc
     all_goals
      go_wp2
      go_ret2
      rw[Aa HF];exact⟨rfl,rfl⟩
    ·have J:=P03.cont_yes (r:=g) (n:=m) (Aa H0) hc;rw[zO,zO]at J;have HC:=Ab J;clear J;have aJ:¬(s[k+j].toNat:Int)<128:=by omega
     have aH:¬192≤(s[k+j].toNat:Int):=by omega
     clear hc;go_wp2;go_roundg g
     case measure=>omega
     case rel=>exact⟨j+1,m*64+(s[k+j].toNat:Int)-128,by have:=Aa HG;omega,by omega,by go_num,rfl,by show _=_;rw[Aa HP,zO,Aa HC];simp only[zO];rw[Nat.add_assoc],by omega,by omega,rfl⟩
theorem Zb(s:ByteArray)(k:Nat)(w:World)(h:s.size≤2097152)(hk:k<s.size) :
  Calls Tryz.prog 190 #[.string s,.int .i64 (k:Int)] w (Ka w (P03.one (s.data.toList.drop k))):=by
 have hb:=s[k].toNat_lt;have I:=P03.getD_drop s k hk;have J:(k:Int)<(s.size:Int):=by omega
 by_cases c1:s[k].toNat<128
 ·have hfin:=P03.one_1 I c1;rw[hfin];clear hfin I;go_enter Tryz.func190,Tryz.ntmps190
  go_wp2
  go_ret2
  exact⟨rfl,rfl⟩
 ·by_cases c2:192≤s[k].toNat∧s[k].toNat<248
  ·by_cases d1:s[k].toNat<224
   ·rw[P03.one_2 I (by omega) d1];exact Z7 s k w h hk (by omega) d1
   ·by_cases d2:s[k].toNat<240
    ·rw[P03.one_3 I (by omega) d2];exact Z8 s k w h hk (by omega) d2
    ·rw[P03.one_4 I (by omega) (by omega)];exact Z9 s k w h hk (by omega) (by omega)
  ·have hfin:=P03.one_0 I (by omega) (by omega);rw[hfin];clear hfin I;by_cases c3:s[k].toNat<192
   all_goals
    go_enter Tryz.func190,Tryz.ntmps190
    go_wp2
    go_ret2
    exact⟨rfl,rfl⟩
open Go.RowKit
theorem Oz(s:ByteArray)(w:World)(h:s.size≤2097152) :
  Calls Tryz.prog 157 #[.string s] w fun e w'=>e=.returned (.int .i64 (P03.first s.data.toList))∧w'=w:=by
 go_enter Tryz.func157,Tryz.ntmps157
 go_wp2
 go_loopg [3] s.size (fun g s3 wx=>∃(k:Nat),k≤s.size∧s.size≤k+g∧s3=.int .i64 (k:Int)∧Hid (P03.first s.data.toList=P03.firstBad (g+1) k (s.data.toList.drop k))∧wx=w)
 case atStart=>exact⟨0,by omega,by omega,rfl,by show _=_;rw[P03.first,←zY];rfl,rfl⟩
 case round=>
  obtain⟨k,hk,aG,rfl,HP,rfl⟩:=hrel;by_cases aC:k<s.size
  ·have aD:(k:Int)<(s.size:Int):=by omega
   have aB:P03.firstBad (gk+1) k (s.data.toList.drop k)=_:=rfl;clear aB;have aA:(s.data.toList.drop k).length≠0:=by rw[P03.drop_len];omega
   have J:=P03.one_bd (s.data.toList.drop k) (by rw[P03.drop_len];omega);rw[P03.drop_len]at J
   have I:P03.firstBad (gk+1) k (s.data.toList.drop k)=if ((P03.one (s.data.toList.drop k)).1==0)=true then (k:Int) else P03.firstBad gk (k+(P03.one (s.data.toList.drop k)).1.toNat) ((s.data.toList.drop k).drop (P03.one (s.data.toList.drop k)).1.toNat):=by
    rw[P03.firstBad,if_neg aA]
   generalize Z:P03.one (s.data.toList.drop k)=x at J I;obtain⟨x1,x2⟩:=x;simp only at J I;obtain⟨n,rfl⟩:=Int.eq_ofNat_of_zero_le J.1;have HN:=Ab Z;have HS:=Ab I;clear Z I aA;go_wp2_with (go_at_call 190;refine(Zb s k _ h aC).mono ?_;rw[Aa HN];rintro e w' ⟨rfl,rfl⟩)
   ·go_ret;refine⟨Cn ?_,rfl⟩;rw[Aa HP,Aa HS,if_pos (by assumption)]
   ·have aE:n≠0:=by rintro rfl;simp_all
    go_roundg (gk-1)
    case measure=>omega
    case rel=>
     refine⟨k+n,by omega,by omega,by go_num,?_,rfl⟩;show _=_;rw[Aa HP,Aa HS,if_neg (nb (by assumption)),Int.toNat_natCast,zO,show gk-1+1=gk from by omega]
  ·go_wp2;go_ret;refine⟨Cn ?_,rfl⟩;rw[Aa HP,P03.firstBad,if_pos (by rw[P03.drop_len];omega)]
theorem Cv(s:ByteArray)(n:Int)(w:World)(h:s.size≤1100000) :
  Calls Tryz.prog 116 #[.string s,.int .i64 n] w fun e w'=>e=.returned (.int .i64 (P03.check s.data.toList n))∧w'=w:=by
 go_enter Tryz.func116,Tryz.ntmps116
 go_wp2_with (go_at_call 157;refine(Oz _ _ (qK h (by decide))).mono ?_;rintro e w' ⟨rfl,rfl⟩)
 all_goals go_ret
 all_goals refine⟨Cn ?_,rfl⟩
 all_goals rw[P03.check,←zY]
 all_goals repeat (first|rw[if_pos (by omega)]|rw[if_neg (by omega)])
theorem Nk(s:ByteArray)(k:Nat)(r:Int)(w:World)(h:s.size≤1100000)(hk:k≤s.size) :
  Calls Tryz.prog 197 #[.string s,.int .i64 (k:Int),.int .i32 r] w fun e w'=>e=.returned (.int .i64 (P03.taken (s.data.toList.drop k) r))∧w'=w:=by
 have I:(k:Int)≤(s.size:Int):=by omega
 go_enter Tryz.func197,Tryz.ntmps197
 go_wp2_with (go_at_call 221;refine(Tryz.strings_HasPrefix _ _ _).mono ?_;rintro e w' ⟨rfl,rfl⟩)
 all_goals go_ret
 all_goals refine⟨Cn ?_,rfl⟩
 all_goals rw[P03.taken]
 ·rw[if_pos (by assumption)]
 all_goals rw[if_neg (nb (by assumption))]
 all_goals rename_i hp
 all_goals rw[List.take_of_length_le (by rw[P03.drop_len];omega)]at hp
 ·rw[if_pos hp]
 ·rw[if_neg (nb hp)]
open Go.RowKit
theorem K4(w:World)(s:ByteArray)(p:Nat):Below w.heap.size w (w.iter s p):=(qU _ _).alloc (qJ _) _
theorem Up(s:ByteArray)(w:World)(h:s.size≤1100000) :
  Calls Tryz.prog 168 #[.string s] w fun e w'=>e=.returned (.int .i64 (P03.first s.data.toList))∧Below w.heap.size w w':=by
 go_enter Tryz.func168,Tryz.ntmps168
 go_wp2
 go_loopg [] s.size (fun g wx=>∃(k:Nat),k≤s.size∧s.size≤k+g∧Hid (P03.first s.data.toList=P03.firstBad (g+1) k (s.data.toList.drop k))∧wx=w.iter s k)
 case atStart=>exact⟨0,by omega,by omega,by show _=_;rw[P03.first,←zY];rfl,rfl⟩
 case round=>
  obtain⟨k,hk,aE,HP,rfl⟩:=hrel;by_cases Z:k<s.size
  ·have aB:=fun ty=>run_next_any (P:=Tryz.prog) w s k ty Z;have aA:(s.data.toList.drop k).length≠0:=by rw[P03.drop_len];omega
   have J:=P03.one_bd (s.data.toList.drop k) (by rw[P03.drop_len];omega);rw[P03.drop_len]at J
   have I:P03.firstBad (gk+1) k (s.data.toList.drop k)=if ((P03.one (s.data.toList.drop k)).1==0)=true then (k:Int) else P03.firstBad gk (k+(P03.one (s.data.toList.drop k)).1.toNat) ((s.data.toList.drop k).drop (P03.one (s.data.toList.drop k)).1.toNat):=by
    rw[P03.firstBad,if_neg aA]
   have HS:=Ab I;have HB:=Ab J;clear I aA J;rcases P03.meets s k Z with⟨h1,h2⟩|⟨h1,h2,h3⟩
   ·have H1:=Ab h1;clear h1;go_wp2_with (go_at_call 197;refine(Nk s k _ _ h hk).mono ?_;rintro e w' ⟨rfl,rfl⟩)
    go_ret;refine⟨Cn ?_,K4 w s _⟩;rw[Aa HP,Aa HS,if_pos (Aa H1)]
   ·have H1:=Ab h1;have H3:=Ab h3;clear h1 h3;go_wp2_with (go_at_call 197;refine(Nk s k _ _ h hk).mono ?_;rintro e w' ⟨rfl,rfl⟩)
    have aD:1≤(Utf8.decode s k).2:=by
     have e1:=Aa H1;rw[Aa H3]at e1;have:=beq_eq_false_iff_ne.1 e1;omega
    have aC:k+(Utf8.decode s k).2≤s.size:=by
     have:=(Aa HB).2.2;rw[Aa H3]at this;omega
    go_roundg (gk-1)
    case measure=>omega
    case rel=>
     refine⟨k+(Utf8.decode s k).2,aC,by omega,?_,rfl⟩;show _=_;rw[Aa HP,Aa HS,if_neg (nb (Aa H1)),Aa H3,Int.toNat_natCast,zO,show gk-1+1=gk from by omega]
  ·have aB:=fun ty=>run_next_end (P:=Tryz.prog) w s k ty Z;go_wp2;go_ret;refine⟨Cn ?_,K4 w s _⟩;rw[Aa HP,P03.firstBad,if_pos (by rw[P03.drop_len];omega)]
theorem Gj(s:ByteArray)(n:Int)(w:World)(h:s.size≤1100000) :
  Calls Tryz.prog 128 #[.string s,.int .i64 n] w fun e w'=>e=.returned (.int .i64 (P03.check s.data.toList n))∧Below w.heap.size w w':=by
 go_enter Tryz.func128,Tryz.ntmps128
 go_wp2_with (go_at_call 168;refine(Up _ _ (by assumption)).mono ?_;rintro e w' ⟨rfl,hb⟩)
 all_goals go_ret
 all_goals refine⟨Cn ?_,by first|exact qU _ _|assumption⟩
 all_goals rw[P03.check,←zY]
 all_goals repeat (first|rw[if_pos (by omega)]|rw[if_neg (by omega)])
open Go.RowKit
open Go.RowKit
open Go.RowKit Go.Shelf
attribute [local go_sem] Oper.semAt_some
theorem G6(W:World)(g i:Nat)(v:Value):W.grownBy (W.setCell ⟨g,i,none⟩ v) (some g):=
 ⟨rfl,rfl,rfl,(KeepsWalks.setCell W _ v).size,fun k _ hk=>qC _ _ _ k (fun e=>hk (by rw[e]))⟩
end Go.Proofs.YtefokfbgpfcbkaaGreat
namespace Go.Proofs.YtefokfbgpfcbkaaGreat
open Go.RowKit Go.Shelf
attribute [local go_sem] Oper.semAt_some
end Go.Proofs.YtefokfbgpfcbkaaGreat
namespace Go.Proofs.YtefokfbgpfcbkaaGreat
open Go.RowKit Go.Shelf
open Go.RowKit
open Go.RowKit
open Go.RowKit Go.Shelf
theorem Rz(w:World)(J I:Obj):((w.alloc J).alloc I).heap[w.heap.size+1]?=some I:=by
 have h:=qB (w.alloc J) I;rw[qF]at h;exact h
open Go.RowKit
theorem Tn(c:UInt8)(n:Int)(w:World)(h0:0≤n) :
  Calls Tryz.prog 204 #[.int .u8 (c.toNat:Int),.int .i64 n] w fun e w'=>e=.returned (.bool (P18.stands c (decide (0<n))))∧w'=w:=by
 go_enter Tryz.func204,Tryz.ntmps204
 go_wp2_with (go_at_call 227;refine(Tryz.strings_IndexByte _ _ _).mono ?_;rintro e w' ⟨rfl,rfl⟩)
 all_goals go_ret
 all_goals refine⟨Ao ?_,rfl⟩
 all_goals rw[P18.stands_key]
 all_goals first|rw[if_pos (by omega)]|(rw[if_neg (by omega)];first|rw[if_pos (by omega)]|rw[if_neg (by omega)])
 all_goals simp
 all_goals omega
theorem Wa(s:ByteArray)(w:World)(h:s.size≤maxLen) :
    Calls Tryz.prog 173 #[.string s] w fun e w'=>e=.returned (.int .i64 (P18.plainLen false s.data.toList))∧w'=w:=by
  unfold maxLen at h;go_enter Tryz.func173,Tryz.ntmps173
  go_wp2
  go_loop [3] (fun n=>∃k:Nat,k≤s.size∧n=.int .i64 k∧P18.plainLen false s.data.toList=P18.plainLen (decide (0<k)) (s.data.toList.drop k)+k) (fun n=>s.size-(intOf n).toNat)
  case atStart=>exact⟨0,Nat.zero_le _,rfl,rfl⟩
  case round=>
    obtain⟨k,hk,rfl,hp⟩:=hrel;have J:=Ab hp;clear hp;by_cases I:k<s.size
    · have hd:=P18.plainLen_drop (pos:=decide (0<k)) (l:=s.data.toList) (k:=k) (by simpa using I)
      have e0:s.data.toList[k]'(by simpa using I)=s[k]:=rfl;rw[e0]at hd;by_cases hs:P18.stands s[k] (decide (0<k))=true
      all_goals
        have Z:=Ab hd;clear hd e0;go_wp2_with (go_at_call 204;refine(Tn _ _ _ (by omega)).mono ?_;rintro e w' ⟨rfl,rfl⟩)
        first
          | (go_round
             case rel=>exact⟨k+1,by omega,by go_num,by rw[Aa J,Aa Z,if_pos hs];simp;omega⟩
             case measure=>simp[intOf];omega)
          | (go_ret
             exact⟨Cn (by rw[Aa J,Aa Z,if_neg hs];simp),rfl⟩)
    · go_wp2_with fail
      go_ret;exact⟨Cn (by rw[Aa J,qM (by simp;omega)];simp[P18.plainLen]),rfl⟩
open Go.RowKit
theorem Ur(s:ByteArray)(w:World)(h:s.size≤maxLen) :
  Calls Tryz.prog 130 #[.string s] w fun e w'=>e=.returned (.bool (P18.plain s.data.toList))∧w'=w:=by
 go_enter Tryz.func130,Tryz.ntmps130
 go_wp2_with (go_at_call 173;refine(Wa _ _ (by assumption)).mono ?_;rintro e w' ⟨rfl,rfl⟩)
 all_goals go_ret
 all_goals refine⟨Ao ?_,rfl⟩
 all_goals rw[P18.plain,←zY,←Lib.toList_data]
 all_goals simp[*]
open Go.RowKit
open Go.RowKit
open Go.RowKit
open Go.RowKit
open Go.RowKit Go.Lib Go.Sort
end Go.Proofs.YtefokfbgpfcbkaaGreat
