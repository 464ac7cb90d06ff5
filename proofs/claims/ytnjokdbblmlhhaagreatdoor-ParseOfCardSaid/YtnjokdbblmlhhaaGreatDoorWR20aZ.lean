/- Lemmas of this claim. -/
import Derived.Test.YtnjokdbblmlhhaaGreatDoorGW20Z
import Derived.Test.YtnjokdbblmlhhaaGreatDoorGP20Z
namespace Go.Proofs.YtnjokdbblmlhhaaGreatDoor
set_option linter.unusedVariables false
set_option linter.unusedSimpArgs false
open Go.RowKit
set_option maxRecDepth 100000 in
theorem Rt (a:Option Addr) (c:Nat) (ks:List (List UInt8)) (x:List UInt8) (w:World) (h:Eu w a ks) (hl:ks.length≤100000000) :
  Calls Tryz.prog 75 #[.slice a ks.length c,.string ⟨x.toArray⟩] w fun e w'=>e=.returned (.bool (decide (x∈ks)))∧w=w':=by
 obtain ⟨n,hn⟩:∃ n,ks.length=n:=⟨_,rfl⟩
 rw [hn] at hl ⊢
 have HN:=Ab hn
 have HI:=Ab h
 clear hn h
 go_enter Tryz.func75,Tryz.ntmps75
 go_wp2
 go_loopg [5] n (fun g s5 wx=>∃ i:Nat,i+g=n∧s5=.int .i64 i∧Hid (decide (x∈ks)=decide (x∈ks.drop i))∧w=wx)
 case atStart=>exact ⟨0,by omega,by go_num,Ab rfl,rfl⟩
 case round=>
  obtain ⟨i,hig,rfl,HD,rfl⟩:=hrel
  cases gk with
  | zero=>
   have e1:(n:Int)=(i:Int):=by omega
   have HE:=Ab (show i=n by omega)
   go_wp2
   go_ret
   refine ⟨Bn ?_,rfl⟩
   rw [Aa HD,List.drop_of_length_le (by rw [Aa HN];have:=Aa HE;omega)]
   rfl
  | succ g'=>
   have hlt:(i:Int)<(n:Int):=by omega
   have hki:IntKind.i64.wrap ((i:Int)+1)=(i:Int)+1:=IntWalk.i64_in _ (by omega)
   have hil:i<ks.length:=by rw [Aa HN];omega
   obtain ⟨y,hy⟩:∃ y,ks[i]=y:=⟨_,rfl⟩
   obtain ⟨b,o,rfl,hc⟩:=Aa HI i y (by rw [List.getElem?_eq_getElem hil,hy])
   have hd:ks.drop i=y :: ks.drop (i+1):=by rw [List.drop_eq_getElem_cons hil,hy]
   have HQ:=Ab hd
   clear hd hy
   by_cases hxy:y=x
   ·subst hxy
    go_wp2
    go_ret
    refine ⟨Bn ?_,rfl⟩
    rw [Aa HD,Aa HQ]
    simp
   ·have HX:=Ab hxy
    have hbe:(y == x)=false:=by simpa using hxy
    clear hxy
    go_wp2
    go_roundg g'
    case measure=>omega
    case rel=>
     refine ⟨i+1,by omega,by go_num,Ab ?_,rfl⟩
     rw [Aa HD,Aa HQ]
     have:=Aa HX
     simp [Ne.symm this]
end Go.Proofs.YtnjokdbblmlhhaaGreatDoor
namespace Go.Proofs.YtnjokdbblmlhhaaGreatDoor
set_option linter.unusedVariables false
set_option linter.unusedSimpArgs false
open Go.RowKit
namespace P20
theorem Rp (last:Int):∀ f:Nat,(∀ lv ts e l,Val last f lv ts (.bad e l)→e≠0)∧(∀ lv n ts e l,Wi last f lv n ts (.bad e l)→e≠0)∧(∀ lv acc ts e l,Sq last f lv acc ts (.bad e l)→e≠0)∧(∀ lv ks ds ts e l,Ky last f lv ks ds ts (.bad e l)→e≠0)
 | 0=>⟨fun _ _ _ _ h=>(by cases h),fun _ _ _ _ _ h=>(by cases h),fun _ _ _ _ _ h=>(by cases h),fun _ _ _ _ _ _ h=>(by cases h)⟩
 | f+1=>by
  obtain ⟨hv,hw,hs,hk⟩:=Rp last f
  refine ⟨fun lv ts e l h=>?_,fun lv n ts e l h=>?_,fun lv acc ts e l h=>?_,fun lv ks ds ts e l h=>?_⟩
  ·cases h with
   | deep h=>decide
   | none_ h=>decide
   | seqbad h h2=>exact hs _ _ _ _ _ h2
   | keysbad h h2=>exact hk _ _ _ _ _ _ h2
   | form h h2=>decide
  ·cases h with
   | empty h=>decide
   | form h h2=>decide
   | bad h=>exact hv _ _ _ _ h
  ·cases h with
   | next h h2=>exact hs _ _ _ _ _ h2
   | bad h=>exact hw _ _ _ _ _ h
  ·cases h with
   | long h=>decide
   | twice h h2=>decide
   | inl h h2 h3 h4 h5=>exact hk _ _ _ _ _ _ h5
   | inlbad h h2 h3 h4=>exact hv _ _ _ _ h4
   | wi h h2 h3 h4 h5=>exact hk _ _ _ _ _ _ h5
   | wibad h h2 h3 h4=>exact hw _ _ _ _ _ h4
end P20
end Go.Proofs.YtnjokdbblmlhhaaGreatDoor
