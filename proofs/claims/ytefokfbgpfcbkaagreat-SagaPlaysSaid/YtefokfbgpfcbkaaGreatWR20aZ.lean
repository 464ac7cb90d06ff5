import Derived.Test.YtefokfbgpfcbkaaGreatGW20Z
set_option maxRecDepth 100000
set_option linter.unusedVariables false
set_option linter.unusedSimpArgs false
namespace Go.Proofs.YtefokfbgpfcbkaaGreat
open Go.RowKit
theorem Yx(a:Option Addr)(c:Nat)(ks:List (List UInt8))(x:List UInt8)(w:World)(h:Ft w a ks)(hl:ks.length≤100000000) :
  Calls Tryz.prog 215 #[.slice a ks.length c,.string ⟨x.toArray⟩] w fun e w'=>e=.returned (.bool (decide (x∈ks)))∧w=w':=by
 obtain⟨n,hn⟩:=qeX ks.length;rw[hn]at hl ⊢;have HN:=Ab hn;have HI:=Ab h;clear hn h;go_enter Tryz.func215,Tryz.ntmps215
 go_wp2
 go_loopg [5] n (fun g s5 wx=>∃i:Nat,i+g=n∧s5=.int .i64 i∧Hid (decide (x∈ks)=decide (x∈ks.drop i))∧w=wx)
 case atStart=>exact⟨0,by omega,by go_num,Ab rfl,rfl⟩
 case round=>
  obtain⟨i,aD,rfl,Z,rfl⟩:=hrel;cases gk with
  |zero=>
   have e1:(n:Int)=(i:Int):=by omega
   have HE:=Ab (show i=n by omega);go_wp2;go_ret;refine⟨Ao ?_,rfl⟩;rw[Aa Z,qM (by rw[Aa HN];have:=Aa HE;omega)];rfl
  |succ g'=>
   have aC:(i:Int)<(n:Int):=by omega
   have aA:IntKind.i64.wrap ((i:Int)+1)=(i:Int)+1:=qG _ (by omega);have J:i<ks.length:=by rw[Aa HN];omega
   obtain⟨y,hy⟩:=qeX (ks[i]);obtain⟨b,o,rfl,hc⟩:=Aa HI i y (by rw[qO J,hy]);have hd:ks.drop i=y::ks.drop (i+1):=by rw[qL J,hy]
   have HQ:=Ab hd;clear hd hy;by_cases I:y=x
   ·subst I;go_wp2;go_ret;refine⟨Ao ?_,rfl⟩;rw[Aa Z,Aa HQ];simp
   ·have HX:=Ab I;have aB:(y==x)=false:=by simpa using I
    clear I;go_wp2;go_roundg g'
    case measure=>omega
    case rel=>
     refine⟨i+1,by omega,by go_num,Ab ?_,rfl⟩;rw[Aa Z,Aa HQ];have:=Aa HX;simp[Ne.symm this]
end Go.Proofs.YtefokfbgpfcbkaaGreat
