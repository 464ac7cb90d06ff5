/- Lemmas of this claim. -/
import Derived.Test.YtnjokdbblmlhhaaGreatDoorRows
import Derived.Test.YtnjokdbblmlhhaaGreatDoorGPZ
import Derived.Test.YtnjokdbblmlhhaaGreatDoorShelfZ
import Derived.Test.YtnjokdbblmlhhaaGreatDoorGAZ
import Derived.Test.YtnjokdbblmlhhaaGreatDoorGW03Z
import Derived.Shelf.SlicesE.Kit
import Derived.Sort.WalkB12
import Derived.Lib.SlicesMore
import Derived.Lib.OwnBridge
import Derived.Lib.Walk
namespace Go.Proofs.YtnjokdbblmlhhaaGreatDoor
set_option linter.unusedVariables false
set_option linter.unusedSimpArgs false
open Go.RowKit
set_option maxHeartbeats 400000 in
theorem Ox (c:UInt8) (n:Int) (w:World) (h0:0≤n) :
  Calls Tryz.prog 171 #[.int .u8 (c.toNat:Int),.int .i64 n] w fun e w'=>e=.returned (.bool (P18.stands c (decide (0<n))))∧w'=w:=by
 go_enter Tryz.func171,Tryz.ntmps171
 go_wp2_with (go_at_call 156;refine (Tryz.strings_IndexByte _ _ _).mono ?_;rintro e w' ⟨rfl,rfl⟩)
 all_goals go_ret
 all_goals refine ⟨Bn ?_,rfl⟩
 all_goals rw [P18.stands_key]
 all_goals first | rw [if_pos (by omega)] | (rw [if_neg (by omega)];first | rw [if_pos (by omega)] | rw [if_neg (by omega)])
 all_goals simp
 all_goals omega
set_option maxHeartbeats 400000 in
theorem Qw (s:ByteArray) (w:World) (h:s.size≤maxLen) :
    Calls Tryz.prog 147 #[.string s] w fun e w'=>e=.returned (.int .i64 (P18.plainLen false s.data.toList))∧w'=w:=by
  unfold maxLen at h
  go_enter Tryz.func147,Tryz.ntmps147
  go_wp2
  go_loop [3] (fun n=>∃ k:Nat,k≤s.size∧n=.int .i64 k∧P18.plainLen false s.data.toList=P18.plainLen (decide (0<k)) (s.data.toList.drop k)+k) (fun n=>s.size - (intOf n).toNat)
  case atStart=>exact ⟨0,Nat.zero_le _,rfl,rfl⟩
  case round=>
    obtain ⟨k,hk,rfl,hp⟩:=hrel
    have HP:=Ab hp
    clear hp
    by_cases hlt:k<s.size
    · have hd:=P18.plainLen_drop (pos:=decide (0<k)) (l:=s.data.toList) (k:=k) (by simpa using hlt)
      have e0:s.data.toList[k]'(by simpa using hlt)=s[k]:=rfl
      rw [e0] at hd
      by_cases hs:P18.stands s[k] (decide (0<k))=true
      all_goals
        have HD:=Ab hd
        clear hd e0
        go_wp2_with (go_at_call 171;refine (Ox _ _ _ (by omega)).mono ?_;rintro e w' ⟨rfl,rfl⟩)
        first
          | (go_round
             case rel=>exact ⟨k+1,by omega,by go_num,by rw [Aa HP,Aa HD,if_pos hs];simp;omega⟩
             case measure=>simp [intOf];omega)
          | (go_ret
             exact ⟨De (by rw [Aa HP,Aa HD,if_neg hs];simp),rfl⟩)
    · go_wp2_with fail
      go_ret
      exact ⟨De (by rw [Aa HP,List.drop_of_length_le (by simp;omega)];simp [P18.plainLen]),rfl⟩
set_option maxHeartbeats 400000 in
theorem R9 (c:UInt8) (w:World)  :
  Calls Tryz.prog 148 #[.int .u8 (c.toNat:Int)] w fun e w'=>e=.returned (.string ⟨(P18.word c).toArray⟩)∧∃ n,w'=w.drewN n:=by
 have hc:=c.toNat_lt
 go_enter Tryz.func148,Tryz.ntmps148
 go_wp2_with fail
 all_goals try (go_quiet (fail))
 all_goals try go_wp2_with fail
 all_goals try go_ret
 all_goals refine ⟨Im ?_,by first | exact ⟨0,rfl⟩ | exact ⟨_,rfl⟩⟩
 all_goals simp only [beq_iff_eq,beq_eq_false_iff_ne] at *
 all_goals rw [← P18.word_ends c]
 all_goals repeat (first | rw [if_pos (by omega)] | rw [if_neg (by omega)])
 all_goals rfl
end Go.Proofs.YtnjokdbblmlhhaaGreatDoor
namespace Go.Proofs.YtnjokdbblmlhhaaGreatDoor
set_option linter.unusedVariables false
set_option linter.unusedSimpArgs false
open Go.RowKit
set_option maxHeartbeats 400000 in
theorem Pb (s:ByteArray) (w:World) (h:s.size≤maxLen) :
    Calls Tryz.prog 168 #[.string s] w fun e w'=>e=.returned (.tuple #[.int .i64 (P18.cut s.data.toList).1,.int .i64 (P18.cut s.data.toList).2])∧w'=w:=by
  unfold maxLen at h
  by_cases hq:Lib.hasPrefix s.data.toList [34]=true
  · go_enter Tryz.func168,Tryz.ntmps168
    go_wp2
    go_step3
    go_wp2_with (go_at_call 149;refine (Tryz.strings_HasPrefix _ _ _).mono ?_;rintro e w' ⟨rfl,rfl⟩)
    go_step3
    go_wp2_with (go_at_call 149;refine (Tryz.strings_HasPrefix _ _ _).mono ?_;rintro e w' ⟨rfl,rfl⟩)
    go_loop [5,17] (fun t n=>∃ (k:Nat) (b:Bool),k≤s.size∧n=.int .i64 k∧t=.bool b∧P18.cutQ 0 false s.data.toList=P18.cutQ k b (s.data.toList.drop k)) (fun _ n=>s.size - (intOf n).toNat)
    case atStart=>exact ⟨0,false,Nat.zero_le _,rfl,rfl,rfl⟩
    case round=>
      obtain ⟨k,b,hk,rfl,rfl,hp⟩:=hrel
      have HP:=Ab hp
      clear hp
      by_cases hlt:k<s.size
      · have hd:=P18.cutQ_drop (i:=k) (t:=b) (l:=s.data.toList) (by simpa using hlt)
        have e0:s.data.toList[k]'(by simpa using hlt)=s[k]:=rfl
        rw [e0] at hd
        have HD:=Ab hd
        clear hd e0
        go_wp2
        all_goals first
          | exact ⟨⟨k+1,_,by omega,by go_num,rfl,by rw [Aa HP,Aa HD];simp [*]⟩,by simp [intOf];omega⟩
          | (go_ret2
             refine ⟨?_,rfl⟩
             rw [P18.cut,if_pos hq,Aa HP,Aa HD]
             simp [*])
      · go_wp2
        go_ret2
        refine ⟨?_,rfl⟩
        rw [P18.cut,if_pos hq,Aa HP,List.drop_of_length_le (by simp;omega)]
        simp [P18.cutQ]
  · go_enter Tryz.func168,Tryz.ntmps168
    go_wp2
    go_step3
    go_wp2_with (first | (go_at_call 149;refine (Tryz.strings_HasPrefix _ _ _).mono ?_;rintro e w' ⟨rfl,rfl⟩) | (go_at_call 147;refine (Qw _ _ (by assumption)).mono ?_;rintro e w' ⟨rfl,rfl⟩))
    all_goals rw [Exit.noGoto_ret]
    all_goals go_ret2
    all_goals refine ⟨?_,rfl⟩
    all_goals simp [P18.cut, *]
theorem Mj (c:Int) (w:World) (h0:0≤c) (h1:c<256) :
  Calls Tryz.prog 148 #[.int .u8 c] w fun e w'=>∃ b:ByteArray,e=.returned (.string b)∧b.data.toList=P18.word (UInt8.ofNat c.toNat)∧∃ n,w'=w.drewN n:=by
 obtain ⟨n,rfl⟩:=Int.eq_ofNat_of_zero_le h0
 have e:n=(UInt8.ofNat n).toNat:=by simp;omega
 have:=R9 (UInt8.ofNat n) w
 rw [← e] at this
 exact this.mono fun e w' ⟨h1,h2⟩=>⟨_,h1,by simp,h2⟩
set_option maxRecDepth 100000 in
set_option maxHeartbeats 800000 in
theorem N4 (s:ByteArray) (w:World) (h:s.size≤maxLen) :
    Calls Tryz.prog 190 #[.string s] w fun e w'=>e=.returned (.tuple #[.int .u8 (P18.behind s.data.toList).1,.int .i64 (P18.behind s.data.toList).2])∧∃ n,w'=w.drewN n:=by
  unfold maxLen at h
  go_enter Tryz.func190,Tryz.ntmps190
  go_wp2
  go_loopg [8] 128 (fun g s8 wx=>∃ k n:Nat,k+g=128∧s8=.int .i64 k∧Hid ((List.range 128).find? (P18.startsWord s.data.toList)=((List.range 128).drop k).find? (P18.startsWord s.data.toList))∧wx=w.drewN n)
  case atStart=>exact ⟨0,0,rfl,rfl,rfl,rfl⟩
  case round=>
    obtain ⟨k,n,hkg,rfl,HP,hw⟩:=hrel
    have HW:=Ab hw
    clear hw
    cases gk with
    | zero=>
      obtain rfl:k=128:=by omega
      have hb:P18.behind s.data.toList=P18.hexTail s.data.toList:=by
        rw [P18.behind,Aa HP,List.drop_of_length_le (by simp)];rfl
      have HB:=Ab hb
      have hsz:=Lib.size_eq s
      have HZ:=Ab hsz
      clear hb hsz
      by_cases h3:s.size<3
      · go_wp2_with fail
        go_ret2
        have hh:P18.behind s.data.toList=(0,0):=by rw [Aa HB,P18.hexTail,if_pos (by rw [← Aa HZ];omega)]
        rw [hh]
        exact ⟨Fy rfl rfl,n,Aa HW⟩
      · have e1:1<s.size:=by omega
        have e2:2<s.size:=by omega
        have i1:(1:Int)<(s.size:Int):=by omega
        have i2:(2:Int)<(s.size:Int):=by omega
        have g0:s.data.toList.getD 0 0=s[0]:=by rw [List.getD_eq_getElem?_getD,Lib.data_getElem? s 0 (by omega)];rfl
        have g1:s.data.toList.getD 1 0=s[1]:=by rw [List.getD_eq_getElem?_getD,Lib.data_getElem? s 1 (by omega)];rfl
        have g2:s.data.toList.getD 2 0=s[2]:=by rw [List.getD_eq_getElem?_getD,Lib.data_getElem? s 2 (by omega)];rfl
        have hT:P18.hexTail s.data.toList=P18.hexThree s[0] s[1] s[2]:=by
          rw [P18.hexTail,if_neg (by rw [← Aa HZ];omega),g0,g1,g2]
        have HT:=Ab hT
        clear hT g0 g1 g2
        by_cases hx:s[0].toNat=120
        · have hx':(((s[0].toNat:Int)) != 120)=false:=by simp;omega
          have hx2:(s[0] != 120)=false:=by simp;exact UInt8.toNat_inj.1 hx
          have HX:=Ab hx2
          clear hx hx2
          go_wp2_with fail
          go_quiet ((go_at_call 156;exact Calls.quiet_of_same (Tryz.strings_IndexByte _ _ _)))
          have b1:=P18.idx_bd s[1]
          have b2:=P18.idx_bd s[2]
          go_wp2_with fail
          all_goals go_ret2
          all_goals rw [Aa HB,Aa HT,P18.hexThree,if_neg (by rw [Aa HX];simp)]
          all_goals refine ⟨Fy ?_ ?_,_,by rw [Aa HW,World.drewN_drewN]⟩
          all_goals repeat (first | rw [if_pos (by omega)] | rw [if_neg (by omega)])
        · have hx':(((s[0].toNat:Int)) != 120)=true:=by simp;omega
          have hx2:(s[0] != 120)=true:=by simp;intro e;rw [e] at hx;exact hx rfl
          have HX:=Ab hx2
          clear hx hx2
          go_wp2_with fail
          go_ret2
          rw [Aa HB,Aa HT,P18.hexThree,if_pos (Aa HX)]
          exact ⟨Fy rfl rfl,n,Aa HW⟩
    | succ g=>
      have hlt:(k:Int)<128:=by omega
      have hle:k<128:=by omega
      have HG:=Ab hkg
      clear hkg
      have hst:P18.startsWord s.data.toList k=(!(P18.word (UInt8.ofNat k)).isEmpty && Lib.hasPrefix s.data.toList (P18.word (UInt8.ofNat k))):=rfl
      go_wp2_with fail
      refine (Mj _ _ (by omega) (by omega)).mono ?_
      rintro e w' ⟨b,rfl,hu,m,hw1⟩
      rw [Int.toNat_natCast] at hu
      rw [← hu] at hst
      have HW1:=Ab hw1
      have HU:=Ab hu
      have HS:=Ab hst
      clear hw1 hu hst
      go_wp2_with (go_at_call 149;refine (Tryz.strings_HasPrefix _ _ _).mono ?_;rintro e w' ⟨rfl,rfl⟩)
      all_goals first
        | (go_roundg g
           case measure=>omega
           case rel=>
             have hno:P18.startsWord s.data.toList k=false:=by rw [Aa HS];simp_all [Lib.toList_data]
             exact ⟨k+1,n+m,by have:=Aa HG;omega,by go_num,by show _=_;rw [Aa HP,P18.range_drop hle,List.find?_cons_of_neg (by rw [hno];simp)],by rw [Aa HW1,Aa HW,World.drewN_drewN]⟩)
        | (rw [Exit.noGoto_ret]
           have hyes:P18.startsWord s.data.toList k=true:=by rw [Aa HS];simp_all [Lib.toList_data]
           have hh:P18.behind s.data.toList=((k:Int),((P18.word (UInt8.ofNat k)).length:Int)):=by rw [P18.behind,Aa HP,P18.range_drop hle,List.find?_cons_of_pos hyes]
           rw [hh,← Aa HU,← Lib.size_eq]
           go_ret2
           exact ⟨Fy rfl rfl,n+m,by rw [Aa HW1,Aa HW,World.drewN_drewN]⟩)
        | (have hyes:P18.startsWord s.data.toList k=true:=by rw [Aa HS];simp_all [Lib.toList_data]
           have hh:P18.behind s.data.toList=((k:Int),((P18.word (UInt8.ofNat k)).length:Int)):=by rw [P18.behind,Aa HP,P18.range_drop hle,List.find?_cons_of_pos hyes]
           rw [hh,← Aa HU,← Lib.size_eq]
           go_ret2
           exact ⟨Fy rfl rfl,n+m,by rw [Aa HW1,Aa HW,World.drewN_drewN]⟩)
end Go.Proofs.YtnjokdbblmlhhaaGreatDoor
namespace Go.Proofs.YtnjokdbblmlhhaaGreatDoor
set_option linter.unusedVariables false
set_option linter.unusedSimpArgs false
open Go.RowKit
set_option maxRecDepth 100000 in
set_option maxHeartbeats 800000 in
theorem Uf (s:ByteArray) (w:World) (h:s.size≤100000) :
  Calls Tryz.prog 120 #[.string s] w fun e w'=>∃ b:ByteArray,e=.returned (.string b)∧b.data.toList=P18.quote s.data.toList∧Below w.heap.size w w':=by
 go_enter Tryz.func120,Tryz.ntmps120
 go_wp2
 go_loopg [3,9] s.size (fun g s3 s9 wx=>∃ (k:Nat) (out:List UInt8),k+g=s.size∧s9=.int .i64 k∧Hid (P18.quote s.data.toList=out ++ ((s.data.toList.drop k).flatMap P18.quoteOne ++ [34]))∧out.length≤1+5 * k∧Eb wx w.heap.size 5 s3 out∧Below w.heap.size w wx)
 case atStart=>exact ⟨0,[34],by omega,rfl,rfl,by simp,Eb.lit w 5 #[.int .u8 34] [34] (Nat.le_refl _) (by simp [maxLen]) rfl,(Below.refl _ _).alloc (Nat.le_refl _) _⟩
 case round=>
  obtain ⟨k,out,hkg,rfl,HP,hol,hown,hb⟩:=hrel
  cases gk with
  | zero=>
   obtain rfl:k=s.size:=by omega
   have hfin:P18.quote s.data.toList=out ++ [34]:=by
    rw [Aa HP,List.drop_of_length_le (by simp)];rfl
   have HF:=Ab hfin
   clear hfin
   go_wp2_with (at_builtin;refine Ea rfl (.tmp 30) (.tmp 31) 67 rfl Tryz.underlying67 E9 rfl hown 34 (by omega) (by omega) rfl (by omega) hb.size ?_;intro v1 w1 hown1 hg1 _;have hb1:=Er hb hown hg1;have hcv:=Jl (P:=Tryz.prog) 67 9 Tryz.underlying67 Tryz.underlying5 Tryz.underlying9 hown1)
   go_ret
   exact ⟨_,rfl,by rw [Aa HF],hb1⟩
  | succ g=>
   have hlt:k<s.size:=by omega
   have hle:(k:Int)<(s.size:Int):=by omega
   have hq:=P18.quote_drop (l:=s.data.toList) (k:=k) (by simpa using hlt)
   have e0:s.data.toList[k]'(by simpa using hlt)=s[k]:=rfl
   rw [e0] at hq
   have hql:=P18.quoteOne_len s[k]
   have HQ:=Ab hq
   have HG:=Ab hkg
   clear hkg hq e0
   go_wp2_with (first
    | (go_at_call 148;refine (Mj _ _ (by omega) (by have:=s[k].toNat_lt;omega)).mono ?_;rintro e w' ⟨b,rfl,hu,m,rfl⟩;simp only [Int.toNat_natCast,UInt8.ofNat_toNat] at hu;have hbs:b.size≤3:=(by rw [Lib.size_eq,hu];exact P18.word_len _);have HU:=Ab hu;clear hu)
    | (at_builtin;refine Ea rfl (.tmp 18) (.tmp 19) 67 rfl Tryz.underlying67 E9 rfl (hown.drewN m) 92 (by omega) (by omega) rfl (by omega) hb.size ?_;intro v1 w1 hown1 hg1 _;have hb1:=Er (Cm hb) (hown.drewN m) hg1)
    | (at_builtin;refine Mm rfl (.tmp 20) (.tmp 21) 67 9 rfl Tryz.underlying67 Tryz.underlying9 E9 rfl hown1 b rfl (by simp;omega) hb1.size ?_;intro v2 w2 hown2 hg2;have hb2:=Oo hb1 hown1 hg2)
    | (at_builtin;refine Ea rfl (.tmp 23) (.tmp 27) 67 rfl Tryz.underlying67 E9 rfl (hown.drewN m) _ (by omega) (by have:=s[k].toNat_lt;omega) rfl (by omega) hb.size ?_;intro v1 w1 hown1 hg1 _;have hb1:=Er (Cm hb) (hown.drewN m) hg1))
   ·have e1:out ++ P18.quoteOne s[k]=(out ++ [UInt8.ofNat (92:Int).toNat]) ++ b.data.toList:=by
     rw [P18.quoteOne,if_neg (by rw [← Aa HU,← Lib.toList_data];simp_all),← Aa HU];simp
    go_roundg g
    case measure=>omega
    case rel=>exact ⟨k+1,out ++ P18.quoteOne s[k],by have:=Aa HG;omega,by go_num,by show _=_;rw [Aa HP,Aa HQ];simp,by simp;omega,by rw [e1];exact hown2,hb2⟩
   ·have e1:out ++ P18.quoteOne s[k]=out ++ [UInt8.ofNat ((s[k].toNat:Int)).toNat]:=by
     rw [P18.quoteOne,if_pos (by rw [← Aa HU,← Lib.toList_data];simp_all)];simp
    go_roundg g
    case measure=>omega
    case rel=>exact ⟨k+1,out ++ P18.quoteOne s[k],by have:=Aa HG;omega,by go_num,by show _=_;rw [Aa HP,Aa HQ];simp,by simp;omega,by rw [e1];exact hown1,hb1⟩
end Go.Proofs.YtnjokdbblmlhhaaGreatDoor
namespace Go.Proofs.YtnjokdbblmlhhaaGreatDoor
set_option linter.unusedVariables false
set_option linter.unusedSimpArgs false
open Go.RowKit
theorem behind_nat (s:ByteArray) (w:World) (h:s.size≤maxLen) :
  Calls Tryz.prog 190 #[.string s] w fun e w'=>∃ (c:UInt8) (n:Nat),e=.returned (.tuple #[.int .u8 (c.toNat:Int),.int .i64 (n:Int)])∧P18.behind s.data.toList=((c.toNat:Int),(n:Int))∧n≤3∧∃ m,w'=w.drewN m:=by
 obtain ⟨c,n,hb,hn⟩:=P18.behind_nat s.data.toList
 refine (N4 s w h).mono fun e w' ⟨h1,h2⟩=>⟨c,n,?_,hb,hn,h2⟩
 rw [h1,hb]
def Ot (w:World) (o:Option (List UInt8)) (e:Ending) (w':World):Prop:=
 ∃ (v:Value) (ok:Bool),e=.returned (.tuple #[v,.bool ok])∧ok=o.isSome∧Eb w' w.heap.size 5 v (o.getD [])∧Below w.heap.size w w'
set_option maxRecDepth 100000 in
set_option maxHeartbeats 1600000 in
theorem Oh (s:ByteArray) (w:World) (h:s.size≤1100000) :
  Calls Tryz.prog 181 #[.string s] w (Ot w (P18.within s.data.toList)):=by
 go_enter Tryz.func181,Tryz.ntmps181
 go_wp2
 go_loopg [4,5] (s.size+4) (fun g s4 s5 wx=>∃ (k:Nat) (out:List UInt8),k+g=s.size+4∧0<g∧s5=.int .i64 k∧Hid (P18.within s.data.toList=(P18.within (s.data.toList.drop k)).map (out ++ ·))∧out.length≤k∧Eb wx w.heap.size 5 s4 out∧Below w.heap.size w wx)
 case atStart=>exact ⟨0,[],by omega,by omega,rfl,by show _=_;simp,by simp,Eb.nil _ _ _,Below.refl _ _⟩
 case round=>
  obtain ⟨k,out,hkg,hg0,rfl,HP,hol,hown,hb⟩:=hrel
  have HG:=Ab hkg
  have hk4:k≤s.size+3:=by omega
  clear hkg
  by_cases hlt:k<s.size
  ·have hle:(k:Int)<(s.size:Int):=by omega
   have hd:=P18.within_drop (l:=s.data.toList) (k:=k) (by simpa using hlt)
   have e0:s.data.toList[k]'(by simpa using hlt)=s[k]:=rfl
   rw [e0,P18.within_cons] at hd
   have HD:=Ab hd
   clear hd e0
   go_wp2_with (first
    | (go_at_call 190;refine (behind_nat _ _ (by unfold maxLen;simp;omega)).mono ?_;rintro e w' ⟨c,n,rfl,hbe,hn3,m,rfl⟩;rw [Lib.extract_to_end] at hbe;have HB:=Ab hbe;clear hbe)
    | (at_builtin;refine Ea rfl (.tmp 42) (.tmp 44) 67 rfl Tryz.underlying67 E9 rfl (hown.drewN m) _ (by omega) (by have:=c.toNat_lt;omega) rfl (by omega) hb.size ?_;intro v1 w1 hown1 hg1 _;have hb1:=Er (Cm hb) (hown.drewN m) hg1)
    | (at_builtin;refine Ea rfl (.tmp 42) (.tmp 44) 67 rfl Tryz.underlying67 E9 rfl hown _ (by omega) (by have:=s[k].toNat_lt;omega) rfl (by omega) hb.size ?_;intro v1 w1 hown1 hg1 _;have hb1:=Er hb hown hg1))
   ·have hc:(s[k].toNat:Int)<32∨((s[k].toNat:Int) == 127)=true:=by first | assumption | exact .inl (by omega)
    have hn:P18.within s.data.toList=none:=by rw [Aa HP,Aa HD,if_pos hc];rfl
    go_ret2
    rw [hn]
    exact ⟨_,_,rfl,rfl,Eb.nil _ _ _,hb⟩
   ·obtain ⟨h32,h127⟩:32≤(s[k].toNat:Int)∧((s[k].toNat:Int) == 127)=false:=by assumption
    have hc:¬ ((s[k].toNat:Int)<32∨((s[k].toNat:Int) == 127)=true):=by rw [h127];simp;omega
    have h92:((s[k].toNat:Int) == 92)=true:=by assumption
    have hn0:((n:Int) == 0)=true:=by assumption
    have hn:P18.within s.data.toList=none:=by rw [Aa HP,Aa HD,Aa HB,if_neg hc,if_pos h92,if_pos hn0];rfl
    go_ret2
    rw [hn]
    exact ⟨_,_,rfl,rfl,Eb.nil _ _ _,Cm hb⟩
   ·obtain ⟨h32,h127⟩:32≤(s[k].toNat:Int)∧((s[k].toNat:Int) == 127)=false:=by assumption
    have hc:¬ ((s[k].toNat:Int)<32∨((s[k].toNat:Int) == 127)=true):=by rw [h127];simp;omega
    have h92:((s[k].toNat:Int) == 92)=true:=by assumption
    have hn0:¬ (((n:Int) == 0)=true):=nb (by assumption)
    have hr:=Aa HD
    rw [if_neg hc,if_pos h92,Aa HB,if_neg hn0] at hr
    go_roundg (gk - (n+1))
    case measure=>omega
    case rel=>
     refine ⟨k+n+1,out ++ [UInt8.ofNat ((c.toNat:Int)).toNat],by have:=Aa HG;omega,by have:=Aa HG;omega,by go_num,?_,by simp;omega,hown1,hb1⟩
     show _=_
     rw [Aa HP,hr]
     simp only [Option.map_map,Int.toNat_natCast,List.drop_drop]
     rw [show k+1+n=k+n+1 from by omega]
     congr 1
     funext x;simp
   ·obtain ⟨h32,h127⟩:32≤(s[k].toNat:Int)∧((s[k].toNat:Int) == 127)=false:=by assumption
    have hc:¬ ((s[k].toNat:Int)<32∨((s[k].toNat:Int) == 127)=true):=by rw [h127];simp;omega
    have h92:¬ ((s[k].toNat:Int) == 92)=true:=nb (by assumption)
    have hr:=Aa HD
    rw [if_neg hc,if_neg h92] at hr
    go_roundg (gk - 1)
    case measure=>omega
    case rel=>
     refine ⟨k+1,out ++ [UInt8.ofNat ((s[k].toNat:Int)).toNat],by have:=Aa HG;omega,by have:=Aa HG;omega,by go_num,?_,by simp;omega,hown1,hb1⟩
     show _=_
     rw [Aa HP,hr]
     simp only [Option.map_map,Int.toNat_natCast]
     congr 1
     funext x;simp
   ·have hc:(s[k].toNat:Int)<32∨((s[k].toNat:Int) == 127)=true:=by first | assumption | exact .inl (by omega)
    have hn:P18.within s.data.toList=none:=by rw [Aa HP,Aa HD,if_pos hc];rfl
    go_ret2
    rw [hn]
    exact ⟨_,_,rfl,rfl,Eb.nil _ _ _,hb⟩
  ·go_wp2
   have hn:P18.within s.data.toList=some out:=by rw [Aa HP,List.drop_of_length_le (by rw [← Lib.size_eq];omega),P18.within_nil];simp
   go_ret2
   rw [hn]
   exact ⟨_,_,rfl,rfl,hown,hb⟩
end Go.Proofs.YtnjokdbblmlhhaaGreatDoor
namespace Go.Proofs.YtnjokdbblmlhhaaGreatDoor
set_option linter.unusedVariables false
set_option linter.unusedSimpArgs false
open Go.RowKit
def Tc (w:World) (x:List UInt8 × Int) (e:Ending) (w':World):Prop:=∃ b:ByteArray,e=.returned (.tuple #[.string b,.int .i64 x.2])∧b.data.toList=x.1∧Below w.heap.size w w'
set_option maxRecDepth 100000 in
set_option maxHeartbeats 800000 in
theorem R4 (s:ByteArray) (w:World) (h:s.size≤1100000) :
  Calls Tryz.prog 169 #[.string s] w (Tc w (P18.read s.data.toList)):=by
 have hm:s.size≤maxLen:=by unfold maxLen;omega
 have hsz:=Lib.size_eq s
 obtain ⟨n,c,hnc⟩:∃ n c:Nat,P18.cut s.data.toList=(n,c):=⟨_,_,rfl⟩
 have hcut:=Pb s w hm
 have hrd:P18.read s.data.toList=P18.readF n c s.data.toList:=by rw [P18.read,hnc]
 have hpos:=P18.cut_pos s.data.toList
 have hok:=P18.cut_ok s.data.toList
 rw [hnc] at hcut hpos hok
 have HC:=Ab hcut
 clear hcut hnc
 by_cases hbad:c≠0∨n≠s.data.toList.length
 ·rw [P18.readF_bad hbad] at hrd
  rw [hrd]
  rw [← hsz] at hbad
  clear hrd hsz hpos hok
  go_enter Tryz.func169,Tryz.ntmps169
  by_cases hc0:c=0
  ·have hn0:((n:Int) != (s.size:Int))=true:=by simp;omega
   subst hc0
   clear hbad
   go_wp2_with (first
    | (go_at_call 168;refine (Aa HC).mono ?_;rintro e w' ⟨rfl,rfl⟩))
   go_ret2
   exact ⟨_,rfl,rfl,Below.refl _ _⟩
  ·have hc1:((c:Int) != 0)=true:=by simp;omega
   clear hbad hc0
   go_wp2_with (first
    | (go_at_call 168;refine (Aa HC).mono ?_;rintro e w' ⟨rfl,rfl⟩))
   go_ret2
   exact ⟨_,rfl,rfl,Below.refl _ _⟩
 ·obtain ⟨rfl,hn⟩:c=0∧n=s.data.toList.length:=by omega
  have hp0:=hpos rfl
  rw [← hsz] at hp0
  have hi0:(0:Int)<(s.size:Int):=by omega
  have g0:s.data.toList.getD 0 0=s[0]:=by rw [List.getD_eq_getElem?_getD,Lib.data_getElem? s 0 hp0];rfl
  by_cases hq:s[0].toNat=34
  ·have hq':((s[0].toNat:Int) == 34)=true:=by simp;omega
   have h2:=(hok rfl ((P18.prefix_iff _).2 ⟨by omega,by rw [g0];exact hq⟩)).1
   simp only at h2
   subst hn
   have h2':2≤s.size:=by omega
   have H2:=Ab g0
   have HS:=Ab hsz
   have HRD:=Ab hrd
   rw [← hsz] at HC
   have HQ:=Ab hq
   clear h2 hpos hok hbad g0 hsz hrd hq
   have hex:(s.extract 1 (s.size - 1)).data.toList=(s.data.toList.drop 1).take (s.data.toList.length - 2):=by rw [Lib.extract_data,← Aa HS];rfl
   have hwi:=Oh (s.extract 1 (s.size - 1)) w (by simp;omega)
   rw [hex] at hwi
   have h34:(s.data.toList.getD 0 0).toNat=34:=by
    rw [Aa H2]
    have:=Aa HQ
    omega
   cases hw:P18.within ((s.data.toList.drop 1).take (s.data.toList.length - 2)) with
   | none=>
    rw [hw] at hwi
    have hfin:=(Aa HRD).trans (P18.readF_none h34 hw)
    rw [hfin]
    have HW:=Ab hwi
    clear hwi hw h34 hfin hex
    go_enter Tryz.func169,Tryz.ntmps169
    go_wp2_with (first
     | (go_at_call 168;refine (Aa HC).mono ?_;rintro e w' ⟨rfl,rfl⟩)
     | (go_at_call 181;refine (Aa HW).mono ?_;rintro e w' ⟨v,ok,rfl,rfl,hown,hb⟩))
    go_ret2
    exact ⟨_,rfl,rfl,hb⟩
   | some t=>
    rw [hw] at hwi
    have hfin:=(Aa HRD).trans (P18.readF_some h34 hw)
    rw [hfin]
    have hl:=P18.within_len hw
    have hl2:t.length≤1100000:=by
     have h5:=Aa HS
     simp only [List.length_take,List.length_drop] at hl
     omega
    have HW:=Ab hwi
    clear hwi hw h34 hfin hex hl
    have hts:(⟨t.toArray⟩:ByteArray).size≤1100000:=by rw [Lib.size_eq];simp;omega
    have hck:=fun W=>Fa ⟨t.toArray⟩ 4096 W hts
    simp only [Vv] at hck
    cases hbad:(P03.check t 4096 != 0)
    ·have hc0:P03.check t 4096=0:=by simpa using hbad
     have hfin:P18.chk t=(t,0):=by rw [P18.chk,hbad];rfl
     rw [hfin]
     rw [hc0] at hck
     have HK:=Ab hck
     clear hck hbad hc0 hfin
     go_enter Tryz.func169,Tryz.ntmps169
     go_wp2_with (first
      | (go_at_call 168;refine (Aa HC).mono ?_;rintro e w' ⟨rfl,rfl⟩)
      | (go_at_call 181;refine (Aa HW).mono ?_;rintro e w1 ⟨v,ok,rfl,rfl,hown,hb⟩;have hcv:=Jl (P:=Tryz.prog) 67 9 Tryz.underlying67 Tryz.underlying5 Tryz.underlying9 hown)
      | (go_at_call 44;refine (Aa HK _).mono ?_;rintro e w2 ⟨rfl,hb2⟩))
     go_ret2
     exact ⟨_,rfl,by simp,hb.trans (hb2.mono hb.size)⟩
    ·have hfin:P18.chk t=([],P03.check t 4096):=by rw [P18.chk,hbad];rfl
     rw [hfin]
     have HK:=Ab hck
     clear hck hfin
     go_enter Tryz.func169,Tryz.ntmps169
     go_wp2_with (first
      | (go_at_call 168;refine (Aa HC).mono ?_;rintro e w' ⟨rfl,rfl⟩)
      | (go_at_call 181;refine (Aa HW).mono ?_;rintro e w1 ⟨v,ok,rfl,rfl,hown,hb⟩;have hcv:=Jl (P:=Tryz.prog) 67 9 Tryz.underlying67 Tryz.underlying5 Tryz.underlying9 hown)
      | (go_at_call 44;refine (Aa HK _).mono ?_;rintro e w2 ⟨rfl,hb2⟩))
     go_ret2
     exact ⟨_,rfl,rfl,hb.trans (hb2.mono hb.size)⟩
  ·have hq':((s[0].toNat:Int) == 34)=false:=by simp;omega
   have hfin:P18.read s.data.toList=P18.chk s.data.toList:=by
    rw [hrd,hn]
    exact P18.readF_plain (by rw [g0];exact hq)
   rw [hfin]
   subst hn
   have hck:=fun W=>Fa s 4096 W (by omega)
   rw [← hsz] at HC
   clear hpos hok hbad g0 hsz hrd hq hfin
   cases hbad:(P03.check s.data.toList 4096 != 0)
   ·have hc0:P03.check s.data.toList 4096=0:=by simpa using hbad
    have hfin:P18.chk s.data.toList=(s.data.toList,0):=by rw [P18.chk,hbad];rfl
    rw [hfin]
    rw [hc0] at hck
    have HK:=Ab hck
    clear hck hbad hc0 hfin
    go_enter Tryz.func169,Tryz.ntmps169
    go_wp2_with (first
     | (go_at_call 168;refine (Aa HC).mono ?_;rintro e w' ⟨rfl,rfl⟩)
     | (go_at_call 44;refine (Aa HK _).mono ?_;rintro e w2 ⟨rfl,hb2⟩))
    go_ret2
    exact ⟨_,rfl,rfl,hb2⟩
   ·have hfin:P18.chk s.data.toList=([],P03.check s.data.toList 4096):=by rw [P18.chk,hbad];rfl
    rw [hfin]
    have HK:=Ab hck
    clear hck hfin
    go_enter Tryz.func169,Tryz.ntmps169
    go_wp2_with (first
     | (go_at_call 168;refine (Aa HC).mono ?_;rintro e w' ⟨rfl,rfl⟩)
     | (go_at_call 44;refine (Aa HK _).mono ?_;rintro e w2 ⟨rfl,hb2⟩))
    go_ret2
    exact ⟨_,rfl,rfl,hb2⟩
end Go.Proofs.YtnjokdbblmlhhaaGreatDoor
namespace Go.Proofs.YtnjokdbblmlhhaaGreatDoor
set_option linter.unusedVariables false
set_option linter.unusedSimpArgs false
open Go.RowKit
theorem Ht (w:World) (e:TypeId) (s:ByteArray):Below w.heap.size w (Lib.bytesWorld w e s):=
 ⟨by simp [Lib.bytesWorld,World.freeze,World.alloc,World.drew,-World.alloc_eq,-World.drew_eq],by simp [Lib.bytesWorld,World.freeze,World.alloc,World.drew,-World.alloc_eq,-World.drew_eq],by simp [Lib.bytesWorld,World.freeze,World.alloc,World.drew,-World.alloc_eq,-World.drew_eq],by rw [Lib.bytesWorld_size];omega,fun k hk=>Lib.bytesWorld_at_old w e s k hk⟩
theorem My (w:World) (e:TypeId) (s:ByteArray):∃ W,Lib.bytesWorld w e s=W∧Below w.heap.size w W∧∀ j (h:j<s.size),W.cell? ⟨w.heap.size,j,none⟩=some (.int .u8 (s[j].toNat:Int)):=
 ⟨_,rfl,Ht w e s,fun j h=>by
  rw [Lib.bytesWorld_cell w e s j h,List.getD_eq_getElem?_getD,Lib.data_getElem? s j h];rfl⟩
set_option maxRecDepth 100000 in
set_option maxHeartbeats 800000 in
theorem Np (s:ByteArray) (w:World) (h:s.size≤9223372036854775807) :
  Calls Tryz.prog 52 #[.string s] w fun e w'=>e=.returned (.tuple #[.int .i64 (P18.number s.data.toList).1,.int .i64 (P18.number s.data.toList).2])∧Below w.heap.size w w':=by
 have hsz:=Lib.size_eq s
 by_cases hb:s.size=0∨9<s.size∨(1<s.size∧(s.data.toList.getD 0 0).toNat=48)
 ·have hfin:P18.number s.data.toList=(0,3):=by rw [P18.number,if_pos (by rw [← hsz];exact hb)]
  rw [hfin]
  clear hfin
  by_cases h0:s.size=0
  ·have hne:s.toList.isEmpty=true:=by
    rw [Lib.toList_data]
    have:s.data.toList=[]:=List.eq_nil_of_length_eq_zero (by omega)
    rw [this];rfl
   clear hb hsz
   go_enter Tryz.func52,Tryz.ntmps52
   go_wp2
   go_ret2
   exact ⟨rfl,Below.refl _ _⟩
  ·have hne:s.toList.isEmpty=false:=I5 (by omega)
   have g0:s.data.toList.getD 0 0=s[0]'(by omega):=by rw [List.getD_eq_getElem?_getD,Lib.data_getElem? s 0 (by omega)];rfl
   rw [g0] at hb
   have hp:0<s.size:=by omega
   by_cases h9:9<s.size
   ·clear hb hsz g0
    go_enter Tryz.func52,Tryz.ntmps52
    go_wp2
    go_ret2
    exact ⟨rfl,Below.refl _ _⟩
   ·have h1:1<s.size:=by omega
    have h48:((s[0].toNat:Int) == 48)=true:=by simp;omega
    clear hb hsz g0
    go_enter Tryz.func52,Tryz.ntmps52
    go_wp2
    go_ret2
    exact ⟨rfl,Below.refl _ _⟩
 ·have hfin:P18.number s.data.toList=P18.numLoop 0 s.data.toList:=by rw [P18.number,if_neg (by rw [← hsz];exact hb)]
  rw [hfin]
  clear hfin
  obtain ⟨W,hW,hbW,hcell⟩:=My w 5 s
  have hcv:=Lib.run_convert_string_bytes (P:=Tryz.prog) w 9 67 5 s Tryz.underlying9 Tryz.underlying67 Tryz.underlying5
  rw [hW] at hcv
  have HC:=Ab hcell
  clear hcell hW
  have h1:0<s.size:=by omega
  have h9:s.size≤9:=by omega
  have hne:s.toList.isEmpty=false:=I5 (by omega)
  have g0:s.data.toList.getD 0 0=s[0]:=by rw [List.getD_eq_getElem?_getD,Lib.data_getElem? s 0 (by omega)];rfl
  rw [g0] at hb
  have h9i:(s.size:Int)≤9:=by omega
  have HB:=Ab hb
  clear hb hsz g0
  by_cases h1s:1<s.size
  ·have h48:((s[0].toNat:Int) == 48)=false:=by have:=Aa HB;simp;omega
   go_enter Tryz.func52,Tryz.ntmps52
   go_wp2_with fail
   go_loopg [4,27] s.size (fun g s4 s27 wx=>∃ k n:Nat,k+g=s.size∧s27=.int .i64 (k:Int)∧s4=.int .i64 (n:Int)∧Hid (P18.numLoop 0 s.data.toList=P18.numLoop n (s.data.toList.drop k))∧n<10 ^ k∧wx=W)
   case atStart=>exact ⟨0,0,by omega,rfl,rfl,rfl,by omega,rfl⟩
   case round=>
    obtain ⟨k,n,hkg,rfl,rfl,HP,hn,rfl⟩:=hrel
    cases gk with
    | zero=>
     obtain rfl:k=s.size:=by omega
     have hfin:P18.numLoop 0 s.data.toList=((n:Int),0):=by rw [Aa HP,List.drop_of_length_le (by rw [Lib.size_eq];omega)];rfl
     have HF:=Ab hfin
     clear hfin hn
     go_wp2
     go_ret2
     rw [Aa HF]
     exact ⟨rfl,hbW⟩
    | succ g=>
     have hlt:k<s.size:=by omega
     have hle:(k:Int)<(s.size:Int):=by omega
     have hn9:n<100000000:=Nat.lt_of_lt_of_le hn (P18.pow_le (by omega))
     have hc:=Aa HC k hlt
     have hd:=P18.numLoop_drop (n:=n) (l:=s.data.toList) (k:=k) (by simpa using hlt)
     have e0:s.data.toList[k]'(by simpa using hlt)=s[k]:=rfl
     rw [e0] at hd
     have HD:=Ab hd
     have hb8:=s[k].toNat_lt
     have HG:=Ab hkg
     have HN:=Ab hn
     clear hd e0 hkg hn
     by_cases hbad:(s[k].toNat:Int)<48∨57<(s[k].toNat:Int)
     ·have hfin:P18.numLoop 0 s.data.toList=(0,3):=by rw [Aa HP,Aa HD,if_pos hbad]
      have HF:=Ab hfin
      clear hfin
      rcases hbad with hbad | hbad
      all_goals
       go_wp2
       go_ret2
       rw [Aa HF]
       exact ⟨rfl,hbW⟩
     ·have h48:¬ (s[k].toNat:Int)<48:=by omega
      have h57:¬ 57<(s[k].toNat:Int):=by omega
      have hr:=Aa HD
      rw [if_neg hbad] at hr
      have HR:=Ab hr
      clear hr hbad
      go_wp2
      go_roundg g
      case measure=>omega
      case rel=>
       refine ⟨k+1,n * 10+(s[k].toNat - 48),by have:=Aa HG;omega,by go_num,by go_num,?_,?_,rfl⟩
       ·show _=_
        rw [Aa HP,Aa HR]
       ·have:=Aa HN
        rw [Nat.pow_succ];omega
  ·go_enter Tryz.func52,Tryz.ntmps52
   go_wp2_with fail
   go_loopg [4,27] s.size (fun g s4 s27 wx=>∃ k n:Nat,k+g=s.size∧s27=.int .i64 (k:Int)∧s4=.int .i64 (n:Int)∧Hid (P18.numLoop 0 s.data.toList=P18.numLoop n (s.data.toList.drop k))∧n<10 ^ k∧wx=W)
   case atStart=>exact ⟨0,0,by omega,rfl,rfl,rfl,by omega,rfl⟩
   case round=>
    obtain ⟨k,n,hkg,rfl,rfl,HP,hn,rfl⟩:=hrel
    cases gk with
    | zero=>
     obtain rfl:k=s.size:=by omega
     have hfin:P18.numLoop 0 s.data.toList=((n:Int),0):=by rw [Aa HP,List.drop_of_length_le (by rw [Lib.size_eq];omega)];rfl
     have HF:=Ab hfin
     clear hfin hn
     go_wp2
     go_ret2
     rw [Aa HF]
     exact ⟨rfl,hbW⟩
    | succ g=>
     have hlt:k<s.size:=by omega
     have hle:(k:Int)<(s.size:Int):=by omega
     have hn9:n<100000000:=Nat.lt_of_lt_of_le hn (P18.pow_le (by omega))
     have hc:=Aa HC k hlt
     have hd:=P18.numLoop_drop (n:=n) (l:=s.data.toList) (k:=k) (by simpa using hlt)
     have e0:s.data.toList[k]'(by simpa using hlt)=s[k]:=rfl
     rw [e0] at hd
     have HD:=Ab hd
     have hb8:=s[k].toNat_lt
     have HG:=Ab hkg
     have HN:=Ab hn
     clear hd e0 hkg hn
     by_cases hbad:(s[k].toNat:Int)<48∨57<(s[k].toNat:Int)
     ·have hfin:P18.numLoop 0 s.data.toList=(0,3):=by rw [Aa HP,Aa HD,if_pos hbad]
      have HF:=Ab hfin
      clear hfin
      rcases hbad with hbad | hbad
      all_goals
       go_wp2
       go_ret2
       rw [Aa HF]
       exact ⟨rfl,hbW⟩
     ·have h48:¬ (s[k].toNat:Int)<48:=by omega
      have h57:¬ 57<(s[k].toNat:Int):=by omega
      have hr:=Aa HD
      rw [if_neg hbad] at hr
      have HR:=Ab hr
      clear hr hbad
      go_wp2
      go_roundg g
      case measure=>omega
      case rel=>
       refine ⟨k+1,n * 10+(s[k].toNat - 48),by have:=Aa HG;omega,by go_num,by go_num,?_,?_,rfl⟩
       ·show _=_
        rw [Aa HP,Aa HR]
       ·have:=Aa HN
        rw [Nat.pow_succ];omega
end Go.Proofs.YtnjokdbblmlhhaaGreatDoor
namespace Go.Proofs.YtnjokdbblmlhhaaGreatDoor
set_option linter.unusedVariables false
set_option linter.unusedSimpArgs false
open Go.RowKit Go.Lib Go.Sort
end Go.Proofs.YtnjokdbblmlhhaaGreatDoor
