import Derived.Test.YtefokfbgpfcbkaaGreatGAZ
import Derived.Lib.IndexBytes
import Derived.Lib.DecodeN
set_option maxRecDepth 100000
set_option maxHeartbeats 4000000
set_option linter.unusedVariables false
set_option linter.unusedSimpArgs false
namespace Go.Proofs.YtefokfbgpfcbkaaGreat
namespace P03
def rune(n:Int):Bool:=decide (0≤n)&&(decide (n≤1114111)&&(decide (n<55296)||decide (57343<n)))
def contLoop:Nat→Int→List UInt8→Option Int
 |0,n,_=>some n
 |r+1,n,l=>if ((l.getD 0 0).toNat:Int)<128∨192≤((l.getD 0 0).toNat:Int) then none else contLoop r (n*64+((l.getD 0 0).toNat:Int)-128) (l.drop 1)
def tailOf(k:Nat)(n least:Int)(l:List UInt8):Int × Int:=
 if (l.length:Int)≤(k:Int) then (0,0) else match contLoop k n (l.drop 1)with
 |none=>(0,0)
 |some m=>if m<least then (0,0) else if rune m=false then (0,0) else ((k:Int)+1,m)
def one(l:List UInt8):Int × Int:=
 if ((l.getD 0 0).toNat:Int)<128 then (1,((l.getD 0 0).toNat:Int))
 else if 192≤((l.getD 0 0).toNat:Int)∧((l.getD 0 0).toNat:Int)<224 then tailOf 1 (((l.getD 0 0).toNat:Int)-192) 128 l
 else if 224≤((l.getD 0 0).toNat:Int)∧((l.getD 0 0).toNat:Int)<240 then tailOf 2 (((l.getD 0 0).toNat:Int)-224) 2048 l
 else if 240≤((l.getD 0 0).toNat:Int)∧((l.getD 0 0).toNat:Int)<248 then tailOf 3 (((l.getD 0 0).toNat:Int)-240) 65536 l
 else (0,0)
theorem getD_drop(s:ByteArray)(k:Nat)(h:k<s.size):(s.data.toList.drop k).getD 0 0=s[k]:=by
 rw[List.getD_eq_getElem?_getD,zL,Nat.add_zero,Lib.data_getElem? s k h];rfl
theorem drop_len(s:ByteArray)(k:Nat):(s.data.toList.drop k).length=s.size-k:=by rw[List.length_drop,zY]
def firstBad:Nat→Nat→List UInt8→Int
 |0,_,_=>-1
 |f+1,p,l=>if l.length=0 then -1 else if ((one l).1==0)=true then (p:Int) else firstBad f (p+(one l).1.toNat) (l.drop (one l).1.toNat)
def first(l:List UInt8):Int:=firstBad (l.length+1) 0 l
def taken(l:List UInt8)(r:Int):Int:=if (r != 65533)=true then ((Utf8.encode r).size:Int) else if Lib.hasPrefix l [239,191,189]=true then 3 else 0
def check(l:List UInt8)(most:Int):Int:=if most<(l.length:Int) then 2 else if 0≤first l then 9 else 0
theorem Jb(k:Nat)(n least:Int)(l:List UInt8):0≤(tailOf k n least l).1∧(tailOf k n least l).1≤k+1∧((tailOf k n least l).1≤l.length):=by
 unfold tailOf
 repeat' split
 all_goals simp
 all_goals omega
theorem one_bd(l:List UInt8)(h:0<l.length):0≤(one l).1∧(one l).1≤4∧(one l).1≤l.length:=by
 unfold one;have h1:=Jb 1 (((l.getD 0 0).toNat:Int)-192) 128 l;have h2:=Jb 2 (((l.getD 0 0).toNat:Int)-224) 2048 l;have h3:=Jb 3 (((l.getD 0 0).toNat:Int)-240) 65536 l;generalize ((l.getD 0 0).toNat:Int)=c at *
 repeat' split
 all_goals omega
theorem one_1{l:List UInt8}{b:UInt8}(h:l.getD 0 0=b)(h1:b.toNat<128):one l=(1,(b.toNat:Int)):=by
 unfold one;rw[h,if_pos (by omega)]
theorem one_2{l:List UInt8}{b:UInt8}(h:l.getD 0 0=b)(h1:192≤b.toNat)(h2:b.toNat<224):one l=tailOf 1 ((b.toNat:Int)-192) 128 l:=by
 unfold one;rw[h,if_neg (by omega),if_pos (by omega)]
theorem one_3{l:List UInt8}{b:UInt8}(h:l.getD 0 0=b)(h1:224≤b.toNat)(h2:b.toNat<240):one l=tailOf 2 ((b.toNat:Int)-224) 2048 l:=by
 unfold one;rw[h,if_neg (by omega),if_neg (by omega),if_pos (by omega)]
theorem one_4{l:List UInt8}{b:UInt8}(h:l.getD 0 0=b)(h1:240≤b.toNat)(h2:b.toNat<248):one l=tailOf 3 ((b.toNat:Int)-240) 65536 l:=by
 unfold one;rw[h,if_neg (by omega),if_neg (by omega),if_neg (by omega),if_pos (by omega)]
theorem one_0{l:List UInt8}{b:UInt8}(h:l.getD 0 0=b)(h1:128≤b.toNat)(h2:b.toNat<192∨248≤b.toNat):one l=(0,0):=by
 unfold one;rw[h,if_neg (by omega),if_neg (by omega),if_neg (by omega),if_neg (by omega)]
theorem tailOf_short{k:Nat}{n least:Int}{l:List UInt8}(h:(l.length:Int)≤(k:Int)):tailOf k n least l=(0,0):=by
 unfold tailOf;rw[if_pos h]
theorem tailOf_none{k:Nat}{n least:Int}{l:List UInt8}(h:¬(l.length:Int)≤(k:Int))(hc:contLoop k n (l.drop 1)=none):tailOf k n least l=(0,0):=by
 unfold tailOf;rw[if_neg h,hc]
theorem tailOf_some{k:Nat}{n least m:Int}{l:List UInt8}(h:¬(l.length:Int)≤(k:Int))(hc:contLoop k n (l.drop 1)=some m) :
  tailOf k n least l=if m<least then (0,0) else if rune m=false then (0,0) else ((k:Int)+1,m):=by
 unfold tailOf;rw[if_neg h,hc]
theorem Mr(r:Nat)(n:Int)(l:List UInt8):contLoop (r+1) n l=if ((l.getD 0 0).toNat:Int)<128∨192≤((l.getD 0 0).toNat:Int) then none else contLoop r (n*64+((l.getD 0 0).toNat:Int)-128) (l.drop 1):=rfl
theorem cont_0(n:Int)(l:List UInt8):contLoop 0 n l=some n:=rfl
theorem cont_no{r:Nat}{n:Int}{l:List UInt8}{b:UInt8}(h:l.getD 0 0=b)(h1:(b.toNat:Int)<128∨192≤(b.toNat:Int)):contLoop (r+1) n l=none:=by
 rw[Mr,h,if_pos h1]
theorem cont_yes{r:Nat}{n:Int}{l:List UInt8}{b:UInt8}(h:l.getD 0 0=b)(h1:¬((b.toNat:Int)<128∨192≤(b.toNat:Int))):contLoop (r+1) n l=contLoop r (n*64+(b.toNat:Int)-128) (l.drop 1):=by
 rw[Mr,h,if_neg h1]
end P03
namespace P03
def S1(n I b1 b2 J:Nat):Nat:=
 if I<128 then 1
 else if 192≤I∧I<224 then (if 1<n∧(128≤b1∧b1<192)∧128≤(I-192)*64+(b1-128) then 2 else 0)
 else if 224≤I∧I<240 then (if 2<n∧(128≤b1∧b1<192)∧(128≤b2∧b2<192)∧2048≤(I-224)*4096+(b1-128)*64+(b2-128) ∧
   ((I-224)*4096+(b1-128)*64+(b2-128)<55296∨57343<(I-224)*4096+(b1-128)*64+(b2-128)) then 3 else 0)
 else if 240≤I∧I<248 then (if 3<n∧(128≤b1∧b1<192)∧(128≤b2∧b2<192)∧(128≤J∧J<192)∧65536≤(I-240)*262144+(b1-128)*4096+(b2-128)*64+(J-128) ∧
   (I-240)*262144+(b1-128)*4096+(b2-128)*64+(J-128)≤1114111 then 4 else 0)
 else 0
theorem Qj(n I b1 b2 J:Nat)(hn:0<n)(h0:I<256) :
  (S1 n I b1 b2 J=0∧Lib.decodeN n I b1 b2 J=(65533,1)∧¬(2<n∧I=239∧b1=191∧b2=189)) ∨
  (S1 n I b1 b2 J≠0∧(Lib.decodeN n I b1 b2 J).2=S1 n I b1 b2 J∧((Lib.decodeN n I b1 b2 J).1=65533→2<n∧I=239∧b1=191∧b2=189)):=by
 have key:∀(x:Nat) (y:Nat × Nat),S1 n I b1 b2 J=x→Lib.decodeN n I b1 b2 J=y→((x=0∧y=(65533,1)∧¬(2<n∧I=239∧b1=191∧b2=189))∨(x≠0∧y.2=x∧(y.1=65533→2<n∧I=239∧b1=191∧b2=189))):=by
  intro x y hx hy;unfold S1 at hx;unfold Lib.decodeN at hy
  repeat' split at hx
  all_goals repeat' split at hy
  all_goals subst hx hy
  all_goals first
   |(exfalso;omega)
   |(refine .inl ⟨rfl,rfl,?_⟩;omega)
   |(refine .inr ⟨by omega,rfl,fun h=>?_⟩;simp only at h;omega)
 exact key _ _ rfl rfl
theorem Ln(n:Int):rune n=true↔(0≤n∧n≤1114111∧(n<55296∨57343<n)):=by simp[rune]
theorem Bh(l:List UInt8)(j:Nat):(l.drop j).getD 0 0=l.getD j 0:=by simp[List.getD_eq_getElem?_getD]
theorem Sf(k:Nat)(m least:Int):(if m<least then ((0:Int),(0:Int)) else if rune m=false then (0,0) else ((k:Int)+1,m)).1=if least≤m∧rune m=true then (k:Int)+1 else 0:=by
 cases hr:rune m<;>by_cases h:m<least
 ·rw[if_pos h,if_neg (by simp)]
 ·rw[if_neg h,if_pos rfl,if_neg (by simp)]
 ·rw[if_pos h,if_neg (by omega)]
 ·rw[if_neg h,if_neg (by simp),if_pos ⟨by omega,rfl⟩]
def ct(b:UInt8):Prop:=128≤b.toNat∧b.toNat<192
instance (b:UInt8):Decidable (ct b):=by unfold ct;exact inferInstance
theorem Ms{b:UInt8}(h:¬ct b):(b.toNat:Int)<128∨192≤(b.toNat:Int):=by unfold ct at h;omega
theorem Iz{b:UInt8}(h:ct b):¬((b.toNat:Int)<128∨192≤(b.toNat:Int)):=by unfold ct at h;omega
theorem Qbi(I least:Int)(l:List UInt8):(tailOf 1 I least l).1=if 1<l.length∧ct (l.getD 1 0)∧least≤I*64+((l.getD 1 0).toNat:Int)-128∧rune (I*64+((l.getD 1 0).toNat:Int)-128)=true then 2 else 0:=by
 by_cases h:l.length≤1
 ·rw[tailOf_short (by omega),if_neg (by omega)]
 ·by_cases h1:ct (l.getD 1 0)
  ·rw[tailOf_some (by omega) ((cont_yes (Bh l 1) (Iz h1)).trans (cont_0 _ _)),Sf];by_cases h2:least≤I*64+((l.getD 1 0).toNat:Int)-128∧rune (I*64+((l.getD 1 0).toNat:Int)-128)=true
   ·rw[if_pos h2,if_pos ⟨by omega,h1,h2⟩];rfl
   ·rw[if_neg h2,if_neg (fun h=>h2 h.2.2)]
  ·rw[tailOf_none (by omega) (cont_no (Bh l 1) (Ms h1)),if_neg (fun h=>h1 h.2.1)]
theorem Qbj(I least:Int)(l:List UInt8):(tailOf 2 I least l).1=if 2<l.length∧ct (l.getD 1 0)∧ct (l.getD 2 0)∧least≤(I*64+((l.getD 1 0).toNat:Int)-128)*64+((l.getD 2 0).toNat:Int)-128∧rune ((I*64+((l.getD 1 0).toNat:Int)-128)*64+((l.getD 2 0).toNat:Int)-128)=true then 3 else 0:=by
 by_cases h:l.length≤2
 ·rw[tailOf_short (by omega),if_neg (by omega)]
 ·by_cases h1:ct (l.getD 1 0)
  ·have J:=cont_yes (r:=1) (n:=I) (Bh l 1) (Iz h1);rw[zO]at J;by_cases h2:ct (l.getD 2 0)
   ·rw[tailOf_some (by omega) (J.trans ((cont_yes (Bh l 2) (Iz h2)).trans (cont_0 _ _))),Sf];by_cases h3:least≤(I*64+((l.getD 1 0).toNat:Int)-128)*64+((l.getD 2 0).toNat:Int)-128∧rune ((I*64+((l.getD 1 0).toNat:Int)-128)*64+((l.getD 2 0).toNat:Int)-128)=true
    ·rw[if_pos h3,if_pos ⟨by omega,h1,h2,h3⟩];rfl
    ·rw[if_neg h3,if_neg (fun h=>h3 h.2.2.2)]
   ·rw[tailOf_none (by omega) (J.trans (cont_no (Bh l 2) (Ms h2))),if_neg (fun h=>h2 h.2.2.1)]
  ·rw[tailOf_none (by omega) (cont_no (Bh l 1) (Ms h1)),if_neg (fun h=>h1 h.2.1)]
theorem Qbk(I least:Int)(l:List UInt8):(tailOf 3 I least l).1=if 3<l.length∧ct (l.getD 1 0)∧ct (l.getD 2 0)∧ct (l.getD 3 0)∧least≤((I*64+((l.getD 1 0).toNat:Int)-128)*64+((l.getD 2 0).toNat:Int)-128)*64+((l.getD 3 0).toNat:Int)-128∧rune (((I*64+((l.getD 1 0).toNat:Int)-128)*64+((l.getD 2 0).toNat:Int)-128)*64+((l.getD 3 0).toNat:Int)-128)=true then 4 else 0:=by
 by_cases h:l.length≤3
 ·rw[tailOf_short (by omega),if_neg (by omega)]
 ·by_cases h1:ct (l.getD 1 0)
  ·have J:=cont_yes (r:=2) (n:=I) (Bh l 1) (Iz h1);rw[zO]at J;by_cases h2:ct (l.getD 2 0)
   ·have Z:=cont_yes (r:=1) (n:=I*64+((l.getD 1 0).toNat:Int)-128) (Bh l 2) (Iz h2);rw[zO]at Z;by_cases h3:ct (l.getD 3 0)
    ·rw[tailOf_some (by omega) (J.trans (Z.trans ((cont_yes (Bh l 3) (Iz h3)).trans (cont_0 _ _)))),Sf];by_cases h4:least≤((I*64+((l.getD 1 0).toNat:Int)-128)*64+((l.getD 2 0).toNat:Int)-128)*64+((l.getD 3 0).toNat:Int)-128∧rune (((I*64+((l.getD 1 0).toNat:Int)-128)*64+((l.getD 2 0).toNat:Int)-128)*64+((l.getD 3 0).toNat:Int)-128)=true
     ·rw[if_pos h4,if_pos ⟨by omega,h1,h2,h3,h4⟩];rfl
     ·rw[if_neg h4,if_neg (fun h=>h4 h.2.2.2.2)]
    ·rw[tailOf_none (by omega) (J.trans (Z.trans (cont_no (Bh l 3) (Ms h3)))),if_neg (fun h=>h3 h.2.2.2.1)]
   ·rw[tailOf_none (by omega) (J.trans (cont_no (Bh l 2) (Ms h2))),if_neg (fun h=>h2 h.2.2.1)]
  ·rw[tailOf_none (by omega) (cont_no (Bh l 1) (Ms h1)),if_neg (fun h=>h1 h.2.1)]
theorem Qbe(l:List UInt8):(one l).1=(S1 l.length (l.getD 0 0).toNat (l.getD 1 0).toNat (l.getD 2 0).toNat (l.getD 3 0).toNat:Int):=by
 generalize hb:l.getD 0 0=b;have I:=b.toNat_lt;unfold S1;by_cases c1:b.toNat<128
 ·rw[one_1 hb c1,if_pos c1];rfl
 ·by_cases c2:b.toNat<192
  ·rw[one_0 hb (by omega) (by omega),if_neg c1,if_neg (by omega),if_neg (by omega),if_neg (by omega)];rfl
  ·by_cases c3:b.toNat<224
   ·rw[one_2 hb (by omega) c3,if_neg c1,if_pos (by omega),Qbi];simp only[ct,Ln];split<;>split<;>first|rfl|(exfalso;omega)
   ·by_cases c4:b.toNat<240
    ·rw[one_3 hb (by omega) c4,if_neg c1,if_neg (by omega),if_pos (by omega),Qbj];simp only[ct,Ln];split<;>split<;>first|rfl|(exfalso;omega)
    ·by_cases c5:b.toNat<248
     ·rw[one_4 hb (by omega) c5,if_neg c1,if_neg (by omega),if_neg (by omega),if_pos (by omega),Qbk];simp only[ct,Ln];split<;>split<;>first|rfl|(exfalso;omega)
     ·rw[one_0 hb (by omega) (by omega),if_neg c1,if_neg (by omega),if_neg (by omega),if_neg (by omega)];rfl
theorem Hy(s:ByteArray)(p j:Nat):s.get! (p+j)=(s.data.toList.drop p).getD j 0:=by
 rw[List.getD_eq_getElem?_getD,zL];by_cases h:p+j<s.size
 ·rw[Lib.data_getElem? s _ h];show s.get! (p+j)=_;simp[ByteArray.get!,getElem!_pos,h];rfl
 ·rw[List.getElem?_eq_none (by rw[←zY];omega)];show s.data[p+j]! = _;rw[getElem!_neg _ _ (by simpa using h)];rfl
theorem Vg(r:Int):(((Utf8.encode r).size:Int)==0)=false:=by
 unfold Utf8.encode;simp only
 repeat' split
 all_goals rfl
theorem meets(s:ByteArray)(p:Nat)(h:p<s.size) :
  (((one (s.data.toList.drop p)).1==0)=true∧(taken (s.data.toList.drop p) ((Utf8.decode s p).1:Int)==0)=true) ∨
  (((one (s.data.toList.drop p)).1==0)=false∧(taken (s.data.toList.drop p) ((Utf8.decode s p).1:Int)==0)=false∧(one (s.data.toList.drop p)).1=((Utf8.decode s p).2:Int)):=by
 have hd:=Lib.decode_at s p;have Z:=Hy s p 0;rw[Nat.add_zero]at Z;rw[Z,Hy,Hy,Hy]at hd;have hl:=drop_len s p;have ho:=Qbe (s.data.toList.drop p);rw[hl]at ho;have hk:=Qj (s.size-p) ((s.data.toList.drop p).getD 0 0).toNat ((s.data.toList.drop p).getD 1 0).toNat ((s.data.toList.drop p).getD 2 0).toNat ((s.data.toList.drop p).getD 3 0).toNat (by omega) (UInt8.toNat_lt _);rw[←hd]at hk
 have I:Lib.hasPrefix (s.data.toList.drop p) [239,191,189]=true↔(2<s.size-p∧((s.data.toList.drop p).getD 0 0).toNat=239∧((s.data.toList.drop p).getD 1 0).toNat=191∧((s.data.toList.drop p).getD 2 0).toNat=189):=by
  rw[←hl];generalize s.data.toList.drop p=l
  match l with
  | []=>simp[Lib.hasPrefix]
  | [a]=>simp[Lib.hasPrefix]
  | [a,b]=>simp[Lib.hasPrefix]
  |a::b::c::r=>
   simp[Lib.hasPrefix,←UInt8.toNat_inj];omega
 rcases hk with⟨h1,h2,h3⟩|⟨h1,h2,h3⟩
 ·refine .inl ⟨by rw[ho,h1];rfl,?_⟩;rw[h2,taken,if_neg (by simp),if_neg (fun h=>h3 (I.1 h))];rfl
 ·refine .inr ⟨by rw[ho];exact beq_eq_false_iff_ne.2 (by omega),?_,by rw[ho,h2]⟩;by_cases hr:(Utf8.decode s p).1=65533
  ·rw[hr,taken,if_neg (by simp),if_pos (I.2 (h3 hr))];rfl
  ·have J:(((Utf8.decode s p).1:Int) != 65533)=true:=by simp;omega
   rw[taken,if_pos J];exact Vg _
end P03
open Go.RowKit
def Qbg:List UInt8→List (List UInt8)
 | []=>[]
 |c::r=>if c=10 then [c]::Qbg r else match Qbg r with
  | []=>[[c]]
  |l::ls=>(c::l)::ls
def oddB(c:UInt8):Bool:=c<32||c==127
namespace P18
def stands(c:UInt8)(pos:Bool):Bool:=
 (97≤c&&c≤122)||(65≤c&&c≤90)||(48≤c&&c≤57)||c==46||c==95||c==47||c==43||c==64||(c==45&&pos)
theorem Rb:∀n,n<256→∀pos,P18.stands (UInt8.ofNat n) pos =
  if 97≤bits BinOp.or IntKind.u8 ((UInt8.ofNat n).toNat:Int) 32∧bits BinOp.or IntKind.u8 ((UInt8.ofNat n).toNat:Int) 32≤122∧65≤((UInt8.ofNat n).toNat:Int) then true
  else if 48≤((UInt8.ofNat n).toNat:Int)∧((UInt8.ofNat n).toNat:Int)≤57 then true
  else decide (0≤Lib.indexByte [46,95,47,43,64,45] (UInt8.ofNat n))&&(decide (Lib.indexByte [46,95,47,43,64,45] (UInt8.ofNat n)<5)||pos):=by decide +kernel
theorem stands_key(c:UInt8)(pos:Bool):P18.stands c pos =
  if 97≤bits BinOp.or IntKind.u8 (c.toNat:Int) 32∧bits BinOp.or IntKind.u8 (c.toNat:Int) 32≤122∧65≤(c.toNat:Int) then true
  else if 48≤(c.toNat:Int)∧(c.toNat:Int)≤57 then true
  else decide (0≤Lib.indexByte [46,95,47,43,64,45] c)&&(decide (Lib.indexByte [46,95,47,43,64,45] c<5)||pos):=
 U3 (p:=fun c=>∀pos,P18.stands c pos =
  if 97≤bits BinOp.or IntKind.u8 (c.toNat:Int) 32∧bits BinOp.or IntKind.u8 (c.toNat:Int) 32≤122∧65≤(c.toNat:Int) then true
  else if 48≤(c.toNat:Int)∧(c.toNat:Int)≤57 then true
  else decide (0≤Lib.indexByte [46,95,47,43,64,45] c)&&(decide (Lib.indexByte [46,95,47,43,64,45] c<5)||pos)) Rb c pos
def plainLen:Bool→List UInt8→Nat
 |_,[]=>0
 |pos,c::r=>if stands c pos then plainLen true r+1 else 0
theorem plainLen_drop{pos:Bool}{l:List UInt8}{k:Nat}(h:k<l.length) :
  plainLen pos (l.drop k)=if stands l[k] pos then plainLen true (l.drop (k+1))+1 else 0:=by
 rw[qL h];rfl
def plain(l:List UInt8):Bool:=!l.isEmpty&&((plainLen false l:Int)==(l.length:Int))
def P6(n:Nat):UInt8:=if n<10 then UInt8.ofNat (48+n) else UInt8.ofNat (87+n)
def Qay(c:UInt8):List UInt8:=
 if c=34∨c=92 then [c] else if c=10 then [110] else if c=9 then [116]
 else if c<32∨c=127 then [120,P6 (c.toNat / 16),P6 (c.toNat % 16)] else []
def Xx:Nat→Bool→List UInt8→Option Nat
 |_,_,[]=>none
 |i,taken,c::r=>if ((i:Int)==0)=true then Xx (i+1) taken r else if taken=true then Xx (i+1) false r
  else if ((c.toNat:Int)==92)=true then Xx (i+1) true r else if ((c.toNat:Int)==34)=true then some (i+1) else Xx (i+1) taken r
def cut(l:List UInt8):Nat × Nat:=
 if Lib.hasPrefix l [34] then (match Xx 0 false l with|some n=>(n,0)|none=>(0,3))
 else if ((plainLen false l:Int)==0)=true then (0,3) else (plainLen false l,0)
def X9(a b c:UInt8):Int × Int:=
 if (a != 120)=true then (0,0)
 else if Lib.indexByte [48,49,50,51,52,53,54,55,56,57,97,98,99,100,101,102] b<0 then (0,0) else if Lib.indexByte [48,49,50,51,52,53,54,55,56,57,97,98,99,100,101,102] c<0 then (0,0)
 else if 127<Lib.indexByte [48,49,50,51,52,53,54,55,56,57,97,98,99,100,101,102] b*16+Lib.indexByte [48,49,50,51,52,53,54,55,56,57,97,98,99,100,101,102] c then (0,0)
 else (Lib.indexByte [48,49,50,51,52,53,54,55,56,57,97,98,99,100,101,102] b*16+Lib.indexByte [48,49,50,51,52,53,54,55,56,57,97,98,99,100,101,102] c,3)
def Zo(l:List UInt8):Int × Int:=
 if l.length<3 then (0,0) else X9 (l.getD 0 0) (l.getD 1 0) (l.getD 2 0)
def Tp(l:List UInt8)(c:Nat):Bool:=!(Qay (UInt8.ofNat c)).isEmpty&&Lib.hasPrefix l (Qay (UInt8.ofNat c))
def behind(l:List UInt8):Int × Int:=
 match (List.range 128).find? (Tp l)with
 |some c=>((c:Int),((Qay (UInt8.ofNat c)).length:Int))
 |none=>Zo l
end P18
namespace P18
def T2(l:List UInt8):Option (List UInt8):=
 match l with
 | []=>some []
 |c::r=>if (c.toNat:Int)<32∨((c.toNat:Int)==127)=true then none
  else if ((c.toNat:Int)==92)=true then (if ((behind r).2==0)=true then none else (T2 (r.drop (behind r).2.toNat)).map (UInt8.ofNat (behind r).1.toNat :: ·))
  else (T2 r).map (c :: ·)
termination_by l.length
decreasing_by
 all_goals simp
 all_goals omega
end P18
theorem Do(l:List UInt8):(⟨l.toArray⟩:ByteArray).data.toList=l:=by simp
namespace P18
def chk(t:List UInt8):List UInt8 × Int:=if (P03.check t 4096 != 0)=true then ([],P03.check t 4096) else (t,0)
def Z4(n c:Nat)(l:List UInt8):List UInt8 × Int:=
 if ((c:Int) != 0)=true∨((n:Int) != (l.length:Int))=true then ([],3)
 else if ((((l.getD 0 0).toNat:Int))==34)=true then (match T2 ((l.drop 1).take (n-2))with|none=>([],3)|some b=>chk b)
 else chk l
theorem Z5{l:List UInt8}(h:(l.getD 0 0).toNat≠34):Z4 l.length 0 l=chk l:=by
 unfold Z4;rw[if_neg (by simp),if_neg (by simp only[beq_iff_eq];omega)]
end P18
namespace P19
end P19
namespace P18
end P18
namespace R18
open P18
theorem S9:∀n,n<256→∀first:Bool,P18.stands (UInt8.ofNat n) (!first) =
  ((decide (97≤((UInt8.ofNat n).toNat:Int))&&decide (((UInt8.ofNat n).toNat:Int)≤122))||(decide (65≤((UInt8.ofNat n).toNat:Int))&&decide (((UInt8.ofNat n).toNat:Int)≤90))||(decide (48≤((UInt8.ofNat n).toNat:Int))&&decide (((UInt8.ofNat n).toNat:Int)≤57)) ||
   decide (((UInt8.ofNat n).toNat:Int)=46)||decide (((UInt8.ofNat n).toNat:Int)=95)||decide (((UInt8.ofNat n).toNat:Int)=47)||decide (((UInt8.ofNat n).toNat:Int)=43)||decide (((UInt8.ofNat n).toNat:Int)=64)||(decide (((UInt8.ofNat n).toNat:Int)=45) && !first)):=by decide +kernel
theorem plain_key(c:UInt8)(first:Bool):P18.stands c (!first) =
  ((decide (97≤(c.toNat:Int))&&decide ((c.toNat:Int)≤122))||(decide (65≤(c.toNat:Int))&&decide ((c.toNat:Int)≤90))||(decide (48≤(c.toNat:Int))&&decide ((c.toNat:Int)≤57)) ||
   decide ((c.toNat:Int)=46)||decide ((c.toNat:Int)=95)||decide ((c.toNat:Int)=47)||decide ((c.toNat:Int)=43)||decide ((c.toNat:Int)=64)||(decide ((c.toNat:Int)=45) && !first)):=by
 have h:=S9 c.toNat c.toNat_lt first
 simpa only[UInt8.ofNat_toNat]using h
def allPlain:Bool→List UInt8→Bool
 |_,[]=>true
 |pos,c::r=>if stands c pos=true then allPlain true r else false
theorem allPlain_drop{pos:Bool}{l:List UInt8}{k:Nat}(h:k<l.length):allPlain pos (l.drop k)=if stands l[k] pos=true then allPlain true (l.drop (k+1)) else false:=by
 rw[qL h];rfl
theorem N8(l:List UInt8):∀pos,allPlain pos l=((plainLen pos l:Int)==(l.length:Int)):=by
 induction l with
 |nil=>intro pos;rfl
 |cons c r ih=>
  intro pos;simp only[allPlain,plainLen,qE];by_cases h:stands c pos=true
  ·rw[if_pos h,if_pos h,ih true];rw[Bool.eq_iff_iff];simp only[beq_iff_eq];omega
  ·rw[if_neg h,if_neg h];symm;rw[beq_eq_false_iff_ne];omega
theorem plain_eq(l:List UInt8):P18.plain l=(allPlain false l&&decide (0<(l.length:Int))):=by
 rw[N8,P18.plain];cases l with
 |nil=>rfl
 |cons c r=>simp
end R18
namespace R18
end R18
namespace R18
end R18
namespace R18
end R18
namespace P20
inductive T where
 |mk (kind:Nat) (text:List UInt8) (keys:List (List UInt8)) (kids:List T) (line:Int)
mutual
def T.same:T→T→Bool
 | .mk k t ks ds _,.mk k' t' ks' ds' _=>k==k'&&(t==t'&&(ks==ks'&&sameL ds ds'))
def sameL:List T→List T→Bool
 | [],[]=>true
 |d::ds,e::es=>d.same e&&sameL ds es
 | [],_::_=>false
 |_::_,[]=>false
end
theorem sameL_len:∀{ds es:List T},sameL ds es=true→ds.length=es.length
 | [],[],_=>rfl
 |d::ds,e::es,h=>by
  simp only[sameL,Bool.and_eq_true]at h;simp[sameL_len h.2]
 | [],_::_,h=>by simp[sameL]at h
 |_::_,[],h=>by simp[sameL]at h
def T.kind:T→Nat | .mk k _ _ _ _=>k
end P20
namespace P20
mutual
def T.size:Nat→T→Nat × Nat
 |lv,.mk k t ks ds l=>if lv=0 then (0,0) else ((sizeL (lv-1) ds).1+1,(sizeL (lv-1) ds).2+1)
def sizeL:Nat→List T→Nat × Nat
 |lv,[]=>(0,0)
 |lv,d::ds=>(max (d.size lv).1 (sizeL lv ds).1,(d.size lv).2+(sizeL lv ds).2)
end
mutual
def T.pre(most:Nat):Nat→T→List (Nat × T)
 |lv,.mk k t ks ds l=>if most<lv then [] else (lv,.mk k t ks ds l)::preL most (lv+1) ds
def preL(most:Nat):Nat→List T→List (Nat × T)
 |lv,[]=>[]
 |lv,d::ds=>d.pre most lv++preL most lv ds
end
theorem Hw(l:List Nat):∀a:Nat,l.foldl max a=max a (l.foldl max 0):=by
 induction l with
 |nil=>intro a;simp
 |cons x l ih=>intro a;simp only[List.foldl_cons];rw[ih (max a x),ih (max 0 x)];omega
mutual
theorem T.pre_size(most:Nat):∀(d:T) (lv:Nat),lv≤most+1→(d.pre most lv).length=(d.size (most+1-lv)).2∧((d.pre most lv).map (·.1)).foldl max 0=(if lv≤most then (d.size (most+1-lv)).1+lv-1 else 0)
 | .mk k t ks ds l,lv,h=>by
  have ih:=Ng most ds (lv+1);unfold T.pre T.size;by_cases hm:most<lv
  ·rw[if_pos hm,if_pos (by omega),if_neg (by omega)];simp
  ·rw[if_neg hm,if_neg (by omega),if_pos (by omega)];obtain⟨h1,h2⟩:=ih (by omega);have e:most+1-lv-1=most+1-(lv+1):=by omega
   rw[e];refine⟨by simp[h1],?_⟩;simp only[List.map_cons,List.foldl_cons];rw[Hw,h2];split<;>omega
theorem Ng(most:Nat):∀(ds:List T) (lv:Nat),lv≤most+1→(preL most lv ds).length=(sizeL (most+1-lv) ds).2∧((preL most lv ds).map (·.1)).foldl max 0=(if (sizeL (most+1-lv) ds).1=0 then 0 else (sizeL (most+1-lv) ds).1+lv-1)
 | [],lv,h=>by simp[preL,sizeL]
 |d::ds,lv,h=>by
  obtain⟨h1,h2⟩:=T.pre_size most d lv h;obtain⟨h3,h4⟩:=Ng most ds lv h;unfold preL sizeL;refine⟨by simp[h1,h3],?_⟩;rw[List.map_append,List.foldl_append,Hw,h2,h4]
  have I:¬lv≤most→(d.size (most+1-lv)).1=0∧(sizeL (most+1-lv) ds).1=0:=by
   intro hn;have e:most+1-lv=0:=by omega
   rw[e];refine⟨by cases d;simp[T.size],?_⟩;clear h1 h2 h3 h4
   induction ds with
   |nil=>rfl
   |cons a b ih=>unfold sizeL;simp only;rw[ih];cases a;simp[T.size]
  have hp:lv≤most→0<(d.size (most+1-lv)).1:=by
   intro hp;cases d;unfold T.size;rw[if_neg (by omega)];exact Nat.succ_pos _
  by_cases hm:lv≤most
  ·have:=hp hm;simp only[hm,if_true];split<;>split<;>omega
  ·obtain⟨z1,z2⟩:=I hm;simp[hm,z1,z2]
end
theorem depth_size(d:T):((d.pre 18 1).map (·.1)).foldl max 0=(d.size 18).1:=by
 have:=(T.pre_size 18 d 1 (by omega)).2;simpa using this
def keysE:List (List UInt8)→List (List UInt8)→Int
 |_,[]=>0
 |seen,k::ks=>if P03.check k 64≠0 then P03.check k 64 else if k∈seen then 6 else keysE (seen++[k]) ks
def oddB(k:Nat)(t:List UInt8)(I nd:Nat):Bool:=
 if k=1 then decide (0<I+nd) else if k=2 then (!t.isEmpty)||decide (0<I) else (!t.isEmpty)||decide (I≠nd)
def nodeE(lv:Nat):T→Int
 | .mk k t ks ds _=>if 16<lv then 11 else if k<1∨3<k then 7 else if oddB k t ks.length ds.length=true then 3 else if P03.check t 4096≠0 then P03.check t 4096 else keysE [] ks
def firstE:List (Nat × T)→Int
 | []=>0
 |x::r=>if nodeE x.1 x.2≠0 then nodeE x.1 x.2 else firstE r
theorem firstE_append(a b:List (Nat × T)):firstE (a++b)=if firstE a≠0 then firstE a else firstE b:=by
 induction a with
 |nil=>simp[firstE]
 |cons x r ih=>
  simp only[zQ,firstE,ih];by_cases h:nodeE x.1 x.2=0
  ·simp[h]
  ·simp[h]
mutual
def T.check:Nat→T→Int
 |lv,.mk k t ks ds l=>if nodeE lv (.mk k t ks ds l)≠0 then nodeE lv (.mk k t ks ds l) else checkL (lv+1) ds
def checkL:Nat→List T→Int
 |lv,[]=>0
 |lv,d::ds=>if d.check lv≠0 then d.check lv else checkL lv ds
end
mutual
theorem T.check_pre:∀(d:T) (lv:Nat),lv≤17→firstE (d.pre 17 lv)=d.check lv
 | .mk k t ks ds l,lv,h=>by
  unfold T.pre T.check;rw[if_neg (by omega)];simp only[firstE];by_cases hl:lv=17
  ·have I:nodeE lv (.mk k t ks ds l)=11:=by simp only[nodeE];rw[if_pos (by omega)]
   rw[I];rfl
  ·rw[Kv ds (lv+1) (by omega)]
theorem Kv:∀(ds:List T) (lv:Nat),lv≤17→firstE (preL 17 lv ds)=checkL lv ds
 | [],lv,h=>rfl
 |d::ds,lv,h=>by
  unfold preL checkL;rw[firstE_append,T.check_pre d lv h,Kv ds lv h]
end
end P20
end Go.Proofs.YtefokfbgpfcbkaaGreat
