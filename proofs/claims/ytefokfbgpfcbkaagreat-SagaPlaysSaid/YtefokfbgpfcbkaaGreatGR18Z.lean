import Derived.Test.YtefokfbgpfcbkaaGreatShelfZ
import Derived.Test.YtefokfbgpfcbkaaGreatGPZ
set_option maxRecDepth 100000
set_option maxHeartbeats 800000
set_option linter.unusedVariables false
set_option linter.unusedSimpArgs false
namespace Go.Proofs.YtefokfbgpfcbkaaGreat
open Go.RowKit
theorem O1(c:UInt8)(b:Bool)(w:World)  :
  Calls Tryz.prog 174 #[.int .u8 (c.toNat:Int),.bool b] w fun e w'=>e=.returned (.bool (P18.stands c (!b)))∧w'=w:=by
 have hc:=c.toNat_lt;go_enter Tryz.func174,Tryz.ntmps174
 go_wp2_with fail
 all_goals go_ret
 all_goals refine⟨Ao ?_,rfl⟩
 all_goals rw[R18.plain_key]
 all_goals try simp only[beq_iff_eq,beq_eq_false_iff_ne]at *
 all_goals cases b
 all_goals rw[Bool.eq_iff_iff]
 all_goals simp
 all_goals omega
theorem O0(s:ByteArray)(w:World)(h:s.size≤maxLen) :
    Calls Tryz.prog 131 #[.string s] w fun e w'=>e=.returned (.bool (P18.plain s.data.toList))∧w'=w:=by
  unfold maxLen at h;rw[R18.plain_eq,←zY];go_enter Tryz.func131,Tryz.ntmps131
  go_wp2
  go_loopg [3] s.size (fun g s3 wx=>∃(k:Nat),k+g=s.size∧s3=.int .i64 (k:Int)∧Hid (R18.allPlain false s.data.toList=R18.allPlain (!((k:Int)==0)) (s.data.toList.drop k))∧wx=w)
  case atStart=>exact⟨0,by omega,rfl,rfl,rfl⟩
  case round=>
    obtain⟨k,I,rfl,Z,rfl⟩:=hrel;cases gk with
    |zero=>
      obtain rfl:k=s.size:=by omega
      have hfin:R18.allPlain false s.data.toList=true:=by rw[Aa Z,qM (by rw[zY];omega)];rfl
      have HF:=Ab hfin;clear hfin;go_wp2;go_ret;exact⟨Ao (by rw[Aa HF];simp),rfl⟩
    |succ g=>
      have J:k<s.size:=by omega
      have aA:(k:Int)<(s.size:Int):=by omega
      have HG:=Ab I;clear I;have hd:=R18.allPlain_drop (pos:=!((k:Int)==0)) (l:=s.data.toList) (k:=k) (by simpa using J);have e0:s.data.toList[k]'(by simpa using J)=s[k]:=rfl;rw[e0]at hd;have HD:=Ab hd;clear hd e0;cases hs:P18.stands s[k] (!((k:Int)==0))
      all_goals
        have HS:=Ab hs;go_wp2_with (go_at_call 174;refine(O1 _ _ _).mono ?_;rw[hs];rintro e w' ⟨rfl,rfl⟩)
        first
          | (go_ret
             exact⟨Ao (by rw[Aa Z,Aa HD,Aa HS];rfl),rfl⟩)
          | (go_roundg g
             case measure=>omega
             case rel=>
              refine⟨k+1,by have:=Aa HG;omega,by go_num,?_,rfl⟩;show _=_;rw[Aa Z,Aa HD,Aa HS,show (!(((k+1:Nat):Int)==0))=true from by simp;omega]
              rfl)
namespace R18
open P18
end R18
end Go.Proofs.YtefokfbgpfcbkaaGreat
