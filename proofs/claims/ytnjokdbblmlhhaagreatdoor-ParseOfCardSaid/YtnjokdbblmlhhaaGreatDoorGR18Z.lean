/- Lemmas of this claim. -/
import Derived.Test.YtnjokdbblmlhhaaGreatDoorRows
import Derived.Test.YtnjokdbblmlhhaaGreatDoorShelfZ
import Derived.Test.YtnjokdbblmlhhaaGreatDoorGPZ
import Derived.Test.YtnjokdbblmlhhaaGreatDoorGAZ
namespace Go.Proofs.YtnjokdbblmlhhaaGreatDoor
set_option linter.unusedVariables false
set_option linter.unusedSimpArgs false
open Go.RowKit
set_option maxHeartbeats 800000 in
theorem Kt (c:UInt8) (b:Bool) (w:World)  :
  Calls Tryz.prog 144 #[.int .u8 (c.toNat:Int),.bool b] w fun e w'=>e=.returned (.bool (P18.stands c (!b)))∧w'=w:=by
 have hc:=c.toNat_lt
 go_enter Tryz.func144,Tryz.ntmps144
 go_wp2_with fail
 all_goals go_ret
 all_goals refine ⟨Bn ?_,rfl⟩
 all_goals rw [R18.plain_key]
 all_goals try simp only [beq_iff_eq,beq_eq_false_iff_ne] at *
 all_goals cases b
 all_goals rw [Bool.eq_iff_iff]
 all_goals simp
 all_goals omega
set_option maxRecDepth 100000 in
set_option maxHeartbeats 800000 in
theorem Tn (s:ByteArray) (w:World) (h:s.size≤maxLen) :
    Calls Tryz.prog 121 #[.string s] w fun e w'=>e=.returned (.bool (P18.plain s.data.toList))∧w'=w:=by
  unfold maxLen at h
  rw [R18.plain_eq,← Lib.size_eq]
  go_enter Tryz.func121,Tryz.ntmps121
  go_wp2
  go_loopg [3] s.size (fun g s3 wx=>∃ (k:Nat),k+g=s.size∧s3=.int .i64 (k:Int)∧Hid (R18.allPlain false s.data.toList=R18.allPlain (!((k:Int) == 0)) (s.data.toList.drop k))∧wx=w)
  case atStart=>exact ⟨0,by omega,rfl,rfl,rfl⟩
  case round=>
    obtain ⟨k,hkg,rfl,HP,rfl⟩:=hrel
    cases gk with
    | zero=>
      obtain rfl:k=s.size:=by omega
      have hfin:R18.allPlain false s.data.toList=true:=by rw [Aa HP,List.drop_of_length_le (by rw [Lib.size_eq];omega)];rfl
      have HF:=Ab hfin
      clear hfin
      go_wp2
      go_ret
      exact ⟨Bn (by rw [Aa HF];simp),rfl⟩
    | succ g=>
      have hlt:k<s.size:=by omega
      have hle:(k:Int)<(s.size:Int):=by omega
      have HG:=Ab hkg
      clear hkg
      have hd:=R18.allPlain_drop (pos:=!((k:Int) == 0)) (l:=s.data.toList) (k:=k) (by simpa using hlt)
      have e0:s.data.toList[k]'(by simpa using hlt)=s[k]:=rfl
      rw [e0] at hd
      have HD:=Ab hd
      clear hd e0
      cases hs:P18.stands s[k] (!((k:Int) == 0))
      all_goals
        have HS:=Ab hs
        go_wp2_with (go_at_call 144;refine (Kt _ _ _).mono ?_;rw [hs];rintro e w' ⟨rfl,rfl⟩)
        first
          | (go_ret
             exact ⟨Bn (by rw [Aa HP,Aa HD,Aa HS];rfl),rfl⟩)
          | (go_roundg g
             case measure=>omega
             case rel=>
              refine ⟨k+1,by have:=Aa HG;omega,by go_num,?_,rfl⟩
              show _=_
              rw [Aa HP,Aa HD,Aa HS,show (!(((k+1:Nat):Int) == 0))=true from by simp;omega]
              rfl)
set_option maxRecDepth 100000 in
set_option maxHeartbeats 800000 in
theorem Js (s:ByteArray) (w:World) (h:s.size≤9223372036854775807) :
  Calls Tryz.prog 25 #[.string s] w fun e w'=>e=.returned (.tuple #[.int .i64 (P18.number s.data.toList).1,.int .i64 (P18.number s.data.toList).2])∧w'=w:=by
 have hsz:=Lib.size_eq s
 by_cases hb:s.size=0∨9<s.size∨(1<s.size∧(s.data.toList.getD 0 0).toNat=48)
 ·have hfin:P18.number s.data.toList=(0,3):=by rw [P18.number,if_pos (by rw [← hsz];exact hb)]
  rw [hfin]
  clear hfin
  by_cases h0:(s.size:Int)<1
  ·clear hb hsz
   go_enter Tryz.func25,Tryz.ntmps25
   go_wp2
   go_ret2
   exact ⟨rfl,rfl⟩
  ·have hpn:0<s.size:=by omega
   have g0:s.data.toList.getD 0 0=s[0]:=by rw [List.getD_eq_getElem?_getD,Lib.data_getElem? s 0 (by omega)];rfl
   rw [g0] at hb
   have hp:(0:Int)<s.size:=by omega
   by_cases h9:9<(s.size:Int)
   ·clear hb hsz g0
    go_enter Tryz.func25,Tryz.ntmps25
    go_wp2
    go_ret2
    exact ⟨rfl,rfl⟩
   ·have h1:1<(s.size:Int):=by omega
    have h48:((s[0].toNat:Int) == 48)=true:=by simp;omega
    clear hb hsz g0
    go_enter Tryz.func25,Tryz.ntmps25
    go_wp2
    go_ret2
    exact ⟨rfl,rfl⟩
 ·have hfin:P18.number s.data.toList=P18.numLoop 0 s.data.toList:=by rw [P18.number,if_neg (by rw [← hsz];exact hb)]
  rw [hfin]
  clear hfin
  have h1:0<s.size:=by omega
  have h9:s.size≤9:=by omega
  have h1i:1≤(s.size:Int):=by omega
  have hi0:0<(s.size:Int):=by omega
  have g0:s.data.toList.getD 0 0=s[0]:=by rw [List.getD_eq_getElem?_getD,Lib.data_getElem? s 0 (by omega)];rfl
  rw [g0] at hb
  have h9i:(s.size:Int)≤9:=by omega
  have h48:¬ (1<(s.size:Int))∨((s[0].toNat:Int) == 48)=false:=by
   by_cases h1s:1<s.size
   ·right;simp;omega
   ·left;omega
  clear hb hsz g0
  rcases h48 with h48 | h48
  all_goals
   go_enter Tryz.func25,Tryz.ntmps25
   go_wp2_with fail
   all_goals
    go_loopg [4,5] s.size (fun g s4 s5 wx=>∃ k n:Nat,k+g=s.size∧s5=.int .i64 (k:Int)∧s4=.int .i64 (n:Int)∧Hid (P18.numLoop 0 s.data.toList=P18.numLoop n (s.data.toList.drop k))∧n<10 ^ k∧wx=w)
    case atStart=>exact ⟨0,0,by omega,rfl,rfl,rfl,by omega,rfl⟩
    case round=>
     obtain ⟨k,n,hkg,rfl,rfl,HP,hn,rfl⟩:=hrel
     cases gk with
     | zero=>
      obtain rfl:k=s.size:=by omega
      have hfin:P18.numLoop 0 s.data.toList=((n:Int),0):=by rw [Aa HP,List.drop_of_length_le (by rw [Lib.size_eq];omega)];rfl
      have HF:=Ab hfin
      clear hfin hn
      go_wp2
      go_ret2
      rw [Aa HF]
      exact ⟨rfl,rfl⟩
     | succ g=>
      have hlt:k<s.size:=by omega
      have hle:(k:Int)<(s.size:Int):=by omega
      have hn9:n<100000000:=Nat.lt_of_lt_of_le hn (P18.pow_le (by omega))
      have hd:=P18.numLoop_drop (n:=n) (l:=s.data.toList) (k:=k) (by simpa using hlt)
      have e0:s.data.toList[k]'(by simpa using hlt)=s[k]:=rfl
      rw [e0] at hd
      have HD:=Ab hd
      have hb8:=s[k].toNat_lt
      have HG:=Ab hkg
      have HN:=Ab hn
      clear hd e0 hkg hn
      by_cases hbad:(s[k].toNat:Int)<48∨57<(s[k].toNat:Int)
      ·have hfin:P18.numLoop 0 s.data.toList=(0,3):=by rw [Aa HP,Aa HD,if_pos hbad]
       have HF:=Ab hfin
       clear hfin
       rcases hbad with hbad | hbad
       all_goals
        go_wp2
        go_ret2
        rw [Aa HF]
        exact ⟨rfl,rfl⟩
      ·have h48':¬ (s[k].toNat:Int)<48:=by omega
       have h57:¬ 57<(s[k].toNat:Int):=by omega
       have hr:=Aa HD
       rw [if_neg hbad] at hr
       have HR:=Ab hr
       clear hr hbad
       go_wp2
       go_roundg g
       case measure=>omega
       case rel=>
        refine ⟨k+1,n * 10+(s[k].toNat - 48),by have:=Aa HG;omega,by go_num,by go_num,?_,?_,rfl⟩
        ·show _=_
         rw [Aa HP,Aa HR]
        ·have:=Aa HN
         rw [Nat.pow_succ];omega
theorem Jr (s:ByteArray) (w:World) (h:s.size≤100000) :
  Calls Tryz.prog 25 #[.string s] w fun e w'=>e=.returned (.tuple #[.int .i64 (P18.number s.data.toList).1,.int .i64 (P18.number s.data.toList).2])∧w'=w:=Js s w (by omega)
end Go.Proofs.YtnjokdbblmlhhaaGreatDoor
namespace Go.Proofs.YtnjokdbblmlhhaaGreatDoor
set_option linter.unusedVariables false
set_option linter.unusedSimpArgs false
open Go.RowKit
end Go.Proofs.YtnjokdbblmlhhaaGreatDoor
namespace Go.Proofs.YtnjokdbblmlhhaaGreatDoor
set_option linter.unusedVariables false
set_option linter.unusedSimpArgs false
open Go.RowKit
end Go.Proofs.YtnjokdbblmlhhaaGreatDoor
namespace Go.Proofs.YtnjokdbblmlhhaaGreatDoor
set_option linter.unusedVariables false
set_option linter.unusedSimpArgs false
namespace R18
open P18
end R18
end Go.Proofs.YtnjokdbblmlhhaaGreatDoor
