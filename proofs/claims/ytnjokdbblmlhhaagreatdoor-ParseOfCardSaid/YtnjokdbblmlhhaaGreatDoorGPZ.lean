/- Lemmas of this claim. -/
import Derived.Test.YtnjokdbblmlhhaaGreatDoorGAZ
import Derived.Lib.Strings
import Derived.Lib.IndexBytes
import Derived.Lib.DecodeN
import Derived.Laws.RangeAny
import Derived.Lib.Bytealg
namespace Go.Proofs.YtnjokdbblmlhhaaGreatDoor
set_option linter.unusedVariables false
set_option linter.unusedSimpArgs false
namespace P03
def rune (n:Int):Bool:=decide (0≤n) && (decide (n≤1114111) && (decide (n<55296) || decide (57343<n)))
def contLoop:Nat→Int→List UInt8→Option Int
 | 0,n,_=>some n
 | r+1,n,l=>if ((l.getD 0 0).toNat:Int)<128∨192≤((l.getD 0 0).toNat:Int) then none else contLoop r (n * 64+((l.getD 0 0).toNat:Int) - 128) (l.drop 1)
def tailOf (k:Nat) (n least:Int) (l:List UInt8):Int × Int:=
 if (l.length:Int)≤(k:Int) then (0,0) else match contLoop k n (l.drop 1) with
 | none=>(0,0)
 | some m=>if m<least then (0,0) else if rune m=false then (0,0) else ((k:Int)+1,m)
def one (l:List UInt8):Int × Int:=
 if ((l.getD 0 0).toNat:Int)<128 then (1,((l.getD 0 0).toNat:Int))
 else if 192≤((l.getD 0 0).toNat:Int)∧((l.getD 0 0).toNat:Int)<224 then tailOf 1 (((l.getD 0 0).toNat:Int) - 192) 128 l
 else if 224≤((l.getD 0 0).toNat:Int)∧((l.getD 0 0).toNat:Int)<240 then tailOf 2 (((l.getD 0 0).toNat:Int) - 224) 2048 l
 else if 240≤((l.getD 0 0).toNat:Int)∧((l.getD 0 0).toNat:Int)<248 then tailOf 3 (((l.getD 0 0).toNat:Int) - 240) 65536 l
 else (0,0)
theorem getD_drop (s:ByteArray) (k:Nat) (h:k<s.size):(s.data.toList.drop k).getD 0 0=s[k]:=by
 rw [List.getD_eq_getElem?_getD,List.getElem?_drop,Nat.add_zero,Lib.data_getElem? s k h];rfl
theorem drop_len (s:ByteArray) (k:Nat):(s.data.toList.drop k).length=s.size - k:=by rw [List.length_drop,Lib.size_eq]
def firstBad:Nat→Nat→List UInt8→Int
 | 0,_,_=>-1
 | f+1,p,l=>if l.length=0 then -1 else if ((one l).1 == 0)=true then (p:Int) else firstBad f (p+(one l).1.toNat) (l.drop (one l).1.toNat)
def first (l:List UInt8):Int:=firstBad (l.length+1) 0 l
def taken (l:List UInt8) (r:Int):Int:=if (r != 65533)=true then ((Utf8.encode r).size:Int) else if Lib.hasPrefix l [239,191,189]=true then 3 else 0
def check (l:List UInt8) (most:Int):Int:=if most<(l.length:Int) then 2 else if 0≤first l then 9 else 0
theorem Hj (k:Nat) (n least:Int) (l:List UInt8):0≤(tailOf k n least l).1∧(tailOf k n least l).1≤k+1∧((tailOf k n least l).1≤l.length):=by
 unfold tailOf
 repeat' split
 all_goals simp
 all_goals omega
theorem one_bd (l:List UInt8) (h:0<l.length):0≤(one l).1∧(one l).1≤4∧(one l).1≤l.length:=by
 unfold one
 have h1:=Hj 1 (((l.getD 0 0).toNat:Int) - 192) 128 l
 have h2:=Hj 2 (((l.getD 0 0).toNat:Int) - 224) 2048 l
 have h3:=Hj 3 (((l.getD 0 0).toNat:Int) - 240) 65536 l
 generalize ((l.getD 0 0).toNat:Int)=c at *
 repeat' split
 all_goals omega
theorem one_1 {l:List UInt8} {b:UInt8} (h:l.getD 0 0=b) (h1:b.toNat<128):one l=(1,(b.toNat:Int)):=by
 unfold one;rw [h,if_pos (by omega)]
theorem one_2 {l:List UInt8} {b:UInt8} (h:l.getD 0 0=b) (h1:192≤b.toNat) (h2:b.toNat<224):one l=tailOf 1 ((b.toNat:Int) - 192) 128 l:=by
 unfold one;rw [h,if_neg (by omega),if_pos (by omega)]
theorem one_3 {l:List UInt8} {b:UInt8} (h:l.getD 0 0=b) (h1:224≤b.toNat) (h2:b.toNat<240):one l=tailOf 2 ((b.toNat:Int) - 224) 2048 l:=by
 unfold one;rw [h,if_neg (by omega),if_neg (by omega),if_pos (by omega)]
theorem one_4 {l:List UInt8} {b:UInt8} (h:l.getD 0 0=b) (h1:240≤b.toNat) (h2:b.toNat<248):one l=tailOf 3 ((b.toNat:Int) - 240) 65536 l:=by
 unfold one;rw [h,if_neg (by omega),if_neg (by omega),if_neg (by omega),if_pos (by omega)]
theorem one_0 {l:List UInt8} {b:UInt8} (h:l.getD 0 0=b) (h1:128≤b.toNat) (h2:b.toNat<192∨248≤b.toNat):one l=(0,0):=by
 unfold one;rw [h,if_neg (by omega),if_neg (by omega),if_neg (by omega),if_neg (by omega)]
theorem tailOf_short {k:Nat} {n least:Int} {l:List UInt8} (h:(l.length:Int)≤(k:Int)):tailOf k n least l=(0,0):=by
 unfold tailOf;rw [if_pos h]
theorem tailOf_none {k:Nat} {n least:Int} {l:List UInt8} (h:¬ (l.length:Int)≤(k:Int)) (hc:contLoop k n (l.drop 1)=none):tailOf k n least l=(0,0):=by
 unfold tailOf;rw [if_neg h,hc]
theorem tailOf_some {k:Nat} {n least m:Int} {l:List UInt8} (h:¬ (l.length:Int)≤(k:Int)) (hc:contLoop k n (l.drop 1)=some m) :
  tailOf k n least l=if m<least then (0,0) else if rune m=false then (0,0) else ((k:Int)+1,m):=by
 unfold tailOf;rw [if_neg h,hc]
theorem Kk (r:Nat) (n:Int) (l:List UInt8):contLoop (r+1) n l=if ((l.getD 0 0).toNat:Int)<128∨192≤((l.getD 0 0).toNat:Int) then none else contLoop r (n * 64+((l.getD 0 0).toNat:Int) - 128) (l.drop 1):=rfl
theorem cont_0 (n:Int) (l:List UInt8):contLoop 0 n l=some n:=rfl
theorem cont_no {r:Nat} {n:Int} {l:List UInt8} {b:UInt8} (h:l.getD 0 0=b) (h1:(b.toNat:Int)<128∨192≤(b.toNat:Int)):contLoop (r+1) n l=none:=by
 rw [Kk,h,if_pos h1]
theorem cont_yes {r:Nat} {n:Int} {l:List UInt8} {b:UInt8} (h:l.getD 0 0=b) (h1:¬ ((b.toNat:Int)<128∨192≤(b.toNat:Int))):contLoop (r+1) n l=contLoop r (n * 64+(b.toNat:Int) - 128) (l.drop 1):=by
 rw [Kk,h,if_neg h1]
end P03
end Go.Proofs.YtnjokdbblmlhhaaGreatDoor
namespace Go.Proofs.YtnjokdbblmlhhaaGreatDoor
set_option linter.unusedVariables false
set_option linter.unusedSimpArgs false
namespace P03
def M4 (n b0 b1 b2 b3:Nat):Nat:=
 if b0<128 then 1
 else if 192≤b0∧b0<224 then (if 1<n∧(128≤b1∧b1<192)∧128≤(b0 - 192) * 64+(b1 - 128) then 2 else 0)
 else if 224≤b0∧b0<240 then (if 2<n∧(128≤b1∧b1<192)∧(128≤b2∧b2<192)∧2048≤(b0 - 224) * 4096+(b1 - 128) * 64+(b2 - 128) ∧
   ((b0 - 224) * 4096+(b1 - 128) * 64+(b2 - 128)<55296∨57343<(b0 - 224) * 4096+(b1 - 128) * 64+(b2 - 128)) then 3 else 0)
 else if 240≤b0∧b0<248 then (if 3<n∧(128≤b1∧b1<192)∧(128≤b2∧b2<192)∧(128≤b3∧b3<192)∧65536≤(b0 - 240) * 262144+(b1 - 128) * 4096+(b2 - 128) * 64+(b3 - 128) ∧
   (b0 - 240) * 262144+(b1 - 128) * 4096+(b2 - 128) * 64+(b3 - 128)≤1114111 then 4 else 0)
 else 0
set_option maxRecDepth 100000 in
set_option maxHeartbeats 4000000 in
theorem Mi (n b0 b1 b2 b3:Nat) (hn:0<n) (h0:b0<256) :
  (M4 n b0 b1 b2 b3=0∧Lib.decodeN n b0 b1 b2 b3=(65533,1)∧¬ (2<n∧b0=239∧b1=191∧b2=189)) ∨
  (M4 n b0 b1 b2 b3≠0∧(Lib.decodeN n b0 b1 b2 b3).2=M4 n b0 b1 b2 b3∧((Lib.decodeN n b0 b1 b2 b3).1=65533→2<n∧b0=239∧b1=191∧b2=189)):=by
 have key:∀ (x:Nat) (y:Nat × Nat),M4 n b0 b1 b2 b3=x→Lib.decodeN n b0 b1 b2 b3=y→((x=0∧y=(65533,1)∧¬ (2<n∧b0=239∧b1=191∧b2=189))∨(x≠0∧y.2=x∧(y.1=65533→2<n∧b0=239∧b1=191∧b2=189))):=by
  intro x y hx hy
  unfold M4 at hx
  unfold Lib.decodeN at hy
  repeat' split at hx
  all_goals repeat' split at hy
  all_goals subst hx hy
  all_goals first
   | (exfalso;omega)
   | (refine .inl ⟨rfl,rfl,?_⟩;omega)
   | (refine .inr ⟨by omega,rfl,fun h=>?_⟩;simp only at h;omega)
 exact key _ _ rfl rfl
theorem Ja (n:Int):rune n=true↔(0≤n∧n≤1114111∧(n<55296∨57343<n)):=by simp [rune]
theorem B8 (l:List UInt8) (j:Nat):(l.drop j).getD 0 0=l.getD j 0:=by simp [List.getD_eq_getElem?_getD]
theorem Or (k:Nat) (m least:Int):(if m<least then ((0:Int),(0:Int)) else if rune m=false then (0,0) else ((k:Int)+1,m)).1=if least≤m∧rune m=true then (k:Int)+1 else 0:=by
 cases hr:rune m<;>by_cases h:m<least
 ·rw [if_pos h,if_neg (by simp)]
 ·rw [if_neg h,if_pos rfl,if_neg (by simp)]
 ·rw [if_pos h,if_neg (by omega)]
 ·rw [if_neg h,if_neg (by simp),if_pos ⟨by omega,rfl⟩]
def ct (b:UInt8):Prop:=128≤b.toNat∧b.toNat<192
instance (b:UInt8):Decidable (ct b):=by unfold ct;exact inferInstance
theorem J3 {b:UInt8} (h:¬ ct b):(b.toNat:Int)<128∨192≤(b.toNat:Int):=by unfold ct at h;omega
theorem Hs {b:UInt8} (h:ct b):¬ ((b.toNat:Int)<128∨192≤(b.toNat:Int)):=by unfold ct at h;omega
theorem Uz (n0 least:Int) (l:List UInt8):(tailOf 1 n0 least l).1=if 1<l.length∧ct (l.getD 1 0)∧least≤n0 * 64+((l.getD 1 0).toNat:Int) - 128∧rune (n0 * 64+((l.getD 1 0).toNat:Int) - 128)=true then 2 else 0:=by
 by_cases h:l.length≤1
 ·rw [tailOf_short (by omega),if_neg (by omega)]
 ·by_cases h1:ct (l.getD 1 0)
  ·rw [tailOf_some (by omega) ((cont_yes (B8 l 1) (Hs h1)).trans (cont_0 _ _)),Or]
   by_cases h2:least≤n0 * 64+((l.getD 1 0).toNat:Int) - 128∧rune (n0 * 64+((l.getD 1 0).toNat:Int) - 128)=true
   ·rw [if_pos h2,if_pos ⟨by omega,h1,h2⟩];rfl
   ·rw [if_neg h2,if_neg (fun h=>h2 h.2.2)]
  ·rw [tailOf_none (by omega) (cont_no (B8 l 1) (J3 h1)),if_neg (fun h=>h1 h.2.1)]
theorem Ut (n0 least:Int) (l:List UInt8):(tailOf 2 n0 least l).1=if 2<l.length∧ct (l.getD 1 0)∧ct (l.getD 2 0)∧least≤(n0 * 64+((l.getD 1 0).toNat:Int) - 128) * 64+((l.getD 2 0).toNat:Int) - 128∧rune ((n0 * 64+((l.getD 1 0).toNat:Int) - 128) * 64+((l.getD 2 0).toNat:Int) - 128)=true then 3 else 0:=by
 by_cases h:l.length≤2
 ·rw [tailOf_short (by omega),if_neg (by omega)]
 ·by_cases h1:ct (l.getD 1 0)
  ·have e1:=cont_yes (r:=1) (n:=n0) (B8 l 1) (Hs h1)
   rw [List.drop_drop] at e1
   by_cases h2:ct (l.getD 2 0)
   ·rw [tailOf_some (by omega) (e1.trans ((cont_yes (B8 l 2) (Hs h2)).trans (cont_0 _ _))),Or]
    by_cases h3:least≤(n0 * 64+((l.getD 1 0).toNat:Int) - 128) * 64+((l.getD 2 0).toNat:Int) - 128∧rune ((n0 * 64+((l.getD 1 0).toNat:Int) - 128) * 64+((l.getD 2 0).toNat:Int) - 128)=true
    ·rw [if_pos h3,if_pos ⟨by omega,h1,h2,h3⟩];rfl
    ·rw [if_neg h3,if_neg (fun h=>h3 h.2.2.2)]
   ·rw [tailOf_none (by omega) (e1.trans (cont_no (B8 l 2) (J3 h2))),if_neg (fun h=>h2 h.2.2.1)]
  ·rw [tailOf_none (by omega) (cont_no (B8 l 1) (J3 h1)),if_neg (fun h=>h1 h.2.1)]
theorem U2 (n0 least:Int) (l:List UInt8):(tailOf 3 n0 least l).1=if 3<l.length∧ct (l.getD 1 0)∧ct (l.getD 2 0)∧ct (l.getD 3 0)∧least≤((n0 * 64+((l.getD 1 0).toNat:Int) - 128) * 64+((l.getD 2 0).toNat:Int) - 128) * 64+((l.getD 3 0).toNat:Int) - 128∧rune (((n0 * 64+((l.getD 1 0).toNat:Int) - 128) * 64+((l.getD 2 0).toNat:Int) - 128) * 64+((l.getD 3 0).toNat:Int) - 128)=true then 4 else 0:=by
 by_cases h:l.length≤3
 ·rw [tailOf_short (by omega),if_neg (by omega)]
 ·by_cases h1:ct (l.getD 1 0)
  ·have e1:=cont_yes (r:=2) (n:=n0) (B8 l 1) (Hs h1)
   rw [List.drop_drop] at e1
   by_cases h2:ct (l.getD 2 0)
   ·have e2:=cont_yes (r:=1) (n:=n0 * 64+((l.getD 1 0).toNat:Int) - 128) (B8 l 2) (Hs h2)
    rw [List.drop_drop] at e2
    by_cases h3:ct (l.getD 3 0)
    ·rw [tailOf_some (by omega) (e1.trans (e2.trans ((cont_yes (B8 l 3) (Hs h3)).trans (cont_0 _ _)))),Or]
     by_cases h4:least≤((n0 * 64+((l.getD 1 0).toNat:Int) - 128) * 64+((l.getD 2 0).toNat:Int) - 128) * 64+((l.getD 3 0).toNat:Int) - 128∧rune (((n0 * 64+((l.getD 1 0).toNat:Int) - 128) * 64+((l.getD 2 0).toNat:Int) - 128) * 64+((l.getD 3 0).toNat:Int) - 128)=true
     ·rw [if_pos h4,if_pos ⟨by omega,h1,h2,h3,h4⟩];rfl
     ·rw [if_neg h4,if_neg (fun h=>h4 h.2.2.2.2)]
    ·rw [tailOf_none (by omega) (e1.trans (e2.trans (cont_no (B8 l 3) (J3 h3)))),if_neg (fun h=>h3 h.2.2.2.1)]
   ·rw [tailOf_none (by omega) (e1.trans (cont_no (B8 l 2) (J3 h2))),if_neg (fun h=>h2 h.2.2.1)]
  ·rw [tailOf_none (by omega) (cont_no (B8 l 1) (J3 h1)),if_neg (fun h=>h1 h.2.1)]
set_option maxHeartbeats 4000000 in
theorem Up (l:List UInt8):(one l).1=(M4 l.length (l.getD 0 0).toNat (l.getD 1 0).toNat (l.getD 2 0).toNat (l.getD 3 0).toNat:Int):=by
 generalize hb:l.getD 0 0=b
 have hb8:=b.toNat_lt
 unfold M4
 by_cases c1:b.toNat<128
 ·rw [one_1 hb c1,if_pos c1];rfl
 ·by_cases c2:b.toNat<192
  ·rw [one_0 hb (by omega) (by omega),if_neg c1,if_neg (by omega),if_neg (by omega),if_neg (by omega)];rfl
  ·by_cases c3:b.toNat<224
   ·rw [one_2 hb (by omega) c3,if_neg c1,if_pos (by omega),Uz]
    simp only [ct,Ja]
    split<;>split<;>first | rfl | (exfalso;omega)
   ·by_cases c4:b.toNat<240
    ·rw [one_3 hb (by omega) c4,if_neg c1,if_neg (by omega),if_pos (by omega),Ut]
     simp only [ct,Ja]
     split<;>split<;>first | rfl | (exfalso;omega)
    ·by_cases c5:b.toNat<248
     ·rw [one_4 hb (by omega) c5,if_neg c1,if_neg (by omega),if_neg (by omega),if_pos (by omega),U2]
      simp only [ct,Ja]
      split<;>split<;>first | rfl | (exfalso;omega)
     ·rw [one_0 hb (by omega) (by omega),if_neg c1,if_neg (by omega),if_neg (by omega),if_neg (by omega)];rfl
theorem get_drop (s:ByteArray) (p j:Nat):s.get! (p+j)=(s.data.toList.drop p).getD j 0:=by
 rw [List.getD_eq_getElem?_getD,List.getElem?_drop]
 by_cases h:p+j<s.size
 ·rw [Lib.data_getElem? s _ h]
  show s.get! (p+j)=_
  simp [ByteArray.get!,getElem!_pos,h]
  rfl
 ·rw [List.getElem?_eq_none (by rw [← Lib.size_eq];omega)]
  show s.data[p+j]! = _
  rw [getElem!_neg _ _ (by simpa using h)]
  rfl
theorem Rb (r:Int):(((Utf8.encode r).size:Int) == 0)=false:=by
 unfold Utf8.encode
 simp only
 repeat' split
 all_goals rfl
theorem meets (s:ByteArray) (p:Nat) (h:p<s.size) :
  (((one (s.data.toList.drop p)).1 == 0)=true∧(taken (s.data.toList.drop p) ((Utf8.decode s p).1:Int) == 0)=true) ∨
  (((one (s.data.toList.drop p)).1 == 0)=false∧(taken (s.data.toList.drop p) ((Utf8.decode s p).1:Int) == 0)=false∧(one (s.data.toList.drop p)).1=((Utf8.decode s p).2:Int)):=by
 have hd:=Lib.decode_at s p
 have e0:=get_drop s p 0
 rw [Nat.add_zero] at e0
 rw [e0,get_drop,get_drop,get_drop] at hd
 have hl:=drop_len s p
 have ho:=Up (s.data.toList.drop p)
 rw [hl] at ho
 have hk:=Mi (s.size - p) ((s.data.toList.drop p).getD 0 0).toNat ((s.data.toList.drop p).getD 1 0).toNat ((s.data.toList.drop p).getD 2 0).toNat ((s.data.toList.drop p).getD 3 0).toNat (by omega) (UInt8.toNat_lt _)
 rw [← hd] at hk
 have hpre:Lib.hasPrefix (s.data.toList.drop p) [239,191,189]=true↔(2<s.size - p∧((s.data.toList.drop p).getD 0 0).toNat=239∧((s.data.toList.drop p).getD 1 0).toNat=191∧((s.data.toList.drop p).getD 2 0).toNat=189):=by
  rw [← hl]
  generalize s.data.toList.drop p=l
  match l with
  | []=>simp [Lib.hasPrefix]
  | [a]=>simp [Lib.hasPrefix]
  | [a,b]=>simp [Lib.hasPrefix]
  | a :: b :: c :: r=>
   simp [Lib.hasPrefix,← UInt8.toNat_inj]
   omega
 rcases hk with ⟨h1,h2,h3⟩ | ⟨h1,h2,h3⟩
 ·refine .inl ⟨by rw [ho,h1];rfl,?_⟩
  rw [h2,taken,if_neg (by simp),if_neg (fun h=>h3 (hpre.1 h))];rfl
 ·refine .inr ⟨by rw [ho];exact beq_eq_false_iff_ne.2 (by omega),?_,by rw [ho,h2]⟩
  by_cases hr:(Utf8.decode s p).1=65533
  ·rw [hr,taken,if_neg (by simp),if_pos (hpre.2 (h3 hr))];rfl
  ·have hne:(((Utf8.decode s p).1:Int) != 65533)=true:=by simp;omega
   rw [taken,if_pos hne];exact Rb _
end P03
end Go.Proofs.YtnjokdbblmlhhaaGreatDoor
namespace Go.Proofs.YtnjokdbblmlhhaaGreatDoor
set_option linter.unusedVariables false
set_option linter.unusedSimpArgs false
open Go.RowKit
def C7:List UInt8→List (List UInt8)
 | []=>[]
 | c :: r=>if c=10 then [c] :: C7 r else match C7 r with
  | []=>[[c]]
  | l :: ls=>(c :: l) :: ls
def Ib (l:List UInt8):List UInt8:=if l.getLast?=some 10 then l.dropLast else l
def Bk (s:List UInt8):List (List UInt8):=(C7 s).map Ib
def C5 (s:List UInt8):Option Nat:=s.findIdx? (· == 10)
theorem Ki:∀ (s:List UInt8) (i:Nat),C5 s=some i→C7 s=s.take (i+1) :: C7 (s.drop (i+1))
 | [],i,h=>by simp [C5] at h
 | c :: r,i,h=>by
  unfold C5 at h
  rw [List.findIdx?_cons] at h
  by_cases hc:c=10
  ·subst hc
   simp at h
   subst h
   simp [C7]
  ·simp [hc] at h
   obtain ⟨j,hj,rfl⟩:=h
   have:=Ki r j hj
   rw [C7,if_neg hc,this]
   simp
theorem J0:∀ (s:List UInt8),s≠[]→C5 s=none→C7 s=[s]
 | [],h,_=>absurd rfl h
 | [c],_,h=>by
  unfold C5 at h
  simp at h
  simp [C7,h]
 | c :: d :: r,_,h=>by
  unfold C5 at h
  rw [List.findIdx?_cons] at h
  by_cases hc:c=10
  ·simp [hc] at h
  ·have h2:C5 (d :: r)=none:=by
    unfold C5
    simp [hc] at h
    simp [h.1]
    exact h.2
   have:=J0 (d :: r) (by simp) h2
   rw [C7,if_neg hc,this]
def Pl (l:List UInt8):List UInt8:=(l.reverse.dropWhile (· == 32)).reverse
def Fo (l:List UInt8):List UInt8:=l.dropWhile (· == 32)
def B1:Bool→Bool→Bool→Nat→List UInt8→Nat
 | _,_,_,k,[]=>k
 | bl,within,taken,k,c :: r=>
  if taken then B1 (c == 32) within false (k+1) r
  else if within && c == 92 then B1 (c == 32) within true (k+1) r
  else if c == 34 then B1 (c == 32) (!within) false (k+1) r
  else if within || c != 35 then B1 (c == 32) within false (k+1) r
  else if bl then k
  else B1 (c == 32) within false (k+1) r
def C1 (l:List UInt8):List UInt8:=Pl (l.take (B1 true false false 0 l))
def oddB (c:UInt8):Bool:=c<32 || c == 127
end Go.Proofs.YtnjokdbblmlhhaaGreatDoor
namespace Go.Proofs.YtnjokdbblmlhhaaGreatDoor
set_option linter.unusedVariables false
set_option linter.unusedSimpArgs false
open Go.RowKit
set_option maxRecDepth 100000 in
theorem P6 (n b0 b1 b2 b3:Nat) (hn:1≤n) (h0:128≤b0) :
  128≤(Lib.decodeN n b0 b1 b2 b3).1∧1≤(Lib.decodeN n b0 b1 b2 b3).2∧(Lib.decodeN n b0 b1 b2 b3).2≤4∧(Lib.decodeN n b0 b1 b2 b3).2≤n ∧
  (1<(Lib.decodeN n b0 b1 b2 b3).2→128≤b1)∧(2<(Lib.decodeN n b0 b1 b2 b3).2→128≤b2)∧(3<(Lib.decodeN n b0 b1 b2 b3).2→128≤b3):=by
 have key:∀ y:Nat × Nat,Lib.decodeN n b0 b1 b2 b3=y→128≤y.1∧1≤y.2∧y.2≤4∧y.2≤n∧(1<y.2→128≤b1)∧(2<y.2→128≤b2)∧(3<y.2→128≤b3):=by
  intro y hy
  unfold Lib.decodeN at hy
  repeat' split at hy
  all_goals subst hy
  all_goals refine ⟨?_,?_,?_,?_,?_,?_,?_⟩
  all_goals simp only
  all_goals omega
 exact key _ rfl
theorem Rl (n b0 b1 b2 b3:Nat) (h0:b0<128):Lib.decodeN n b0 b1 b2 b3=(b0,1):=by
 unfold Lib.decodeN;rw [if_pos h0]
def Hl (r:Nat):Bool:=decide (r<32) || r == 127
theorem R6 (c:UInt8):oddB c=Hl c.toNat:=by
 revert c
 apply D1
 decide +kernel
theorem Pv (c:UInt8) (h:128≤c.toNat):oddB c=false:=by
 rw [R6];unfold Hl;simp;omega
theorem Ga (s:ByteArray) (p j:Nat):s.get! (p+j)=(s.data.toList.drop p).getD j 0:=P03.get_drop s p j
theorem Ob (s:ByteArray) (k:Nat) (h:k<s.size) :
  1≤(Utf8.decode s k).2∧k+(Utf8.decode s k).2≤s.size∧((s.data.toList.drop k).take (Utf8.decode s k).2).any oddB=Hl (Utf8.decode s k).1:=by
 have hd:=Lib.decode_at s k
 have e0:=Ga s k 0
 rw [Nat.add_zero] at e0
 rw [e0,Ga,Ga,Ga] at hd
 have hl:(s.data.toList.drop k).length=s.size - k:=P03.drop_len s k
 generalize s.data.toList.drop k=l at *
 match l,hl with
 | a :: r,hl=>
  by_cases ha:a.toNat<128
  ·rw [show (a :: r).getD 0 0=a from rfl,Rl _ _ _ _ _ ha] at hd
   rw [hd]
   refine ⟨Nat.le_refl _,by simp;omega,?_⟩
   simp [R6]
  ·have hh:=P6 (s.size - k) a.toNat ((a :: r).getD 1 0).toNat ((a :: r).getD 2 0).toNat ((a :: r).getD 3 0).toNat (by omega) (by omega)
   rw [show ((a :: r).getD 0 0)=a from rfl] at hd
   rw [← hd] at hh
   obtain ⟨h1,h2,h3,h4,h5,h6,h7⟩:=hh
   refine ⟨h2,by omega,?_⟩
   have:Hl (Utf8.decode s k).1=false:=by unfold Hl;simp;omega
   rw [this,List.any_eq_false]
   intro x hx
   rw [Bool.not_eq_true]
   apply Pv
   obtain ⟨i,hi,rfl⟩:=List.mem_iff_getElem.1 hx
   rw [List.getElem_take]
   rw [List.length_take] at hi
   have hi2:i<(a :: r).length:=by omega
   have e:∀ j (hj:j<(a :: r).length),(a :: r).getD j 0=(a :: r)[j]:=fun j hj=>by rw [List.getD_eq_getElem?_getD,List.getElem?_eq_getElem hj];rfl
   match i,hi,hi2 with
   | 0,_,_=>exact Nat.le_of_not_lt ha
   | 1,_,h8=>rw [← e 1 h8];exact h5 (by omega)
   | 2,_,h8=>rw [← e 2 h8];exact h6 (by omega)
   | 3,_,h8=>rw [← e 3 h8];exact h7 (by omega)
   | i+4,h9,_=>omega
 | [],hl=>simp at hl;omega
end Go.Proofs.YtnjokdbblmlhhaaGreatDoor
namespace Go.Proofs.YtnjokdbblmlhhaaGreatDoor
set_option linter.unusedVariables false
set_option linter.unusedSimpArgs false
namespace P18
def stands (c:UInt8) (pos:Bool):Bool:=
 (97≤c && c≤122) || (65≤c && c≤90) || (48≤c && c≤57) || c == 46 || c == 95 || c == 47 || c == 43 || c == 64 || (c == 45 && pos)
theorem Lr:∀ n,n<256→∀ pos,P18.stands (UInt8.ofNat n) pos =
  if 97≤bits BinOp.or IntKind.u8 ((UInt8.ofNat n).toNat:Int) 32∧bits BinOp.or IntKind.u8 ((UInt8.ofNat n).toNat:Int) 32≤122∧65≤((UInt8.ofNat n).toNat:Int) then true
  else if 48≤((UInt8.ofNat n).toNat:Int)∧((UInt8.ofNat n).toNat:Int)≤57 then true
  else decide (0≤Lib.indexByte [46,95,47,43,64,45] (UInt8.ofNat n)) && (decide (Lib.indexByte [46,95,47,43,64,45] (UInt8.ofNat n)<5) || pos):=by decide +kernel
theorem stands_key (c:UInt8) (pos:Bool):P18.stands c pos =
  if 97≤bits BinOp.or IntKind.u8 (c.toNat:Int) 32∧bits BinOp.or IntKind.u8 (c.toNat:Int) 32≤122∧65≤(c.toNat:Int) then true
  else if 48≤(c.toNat:Int)∧(c.toNat:Int)≤57 then true
  else decide (0≤Lib.indexByte [46,95,47,43,64,45] c) && (decide (Lib.indexByte [46,95,47,43,64,45] c<5) || pos):=
 D1 (p:=fun c=>∀ pos,P18.stands c pos =
  if 97≤bits BinOp.or IntKind.u8 (c.toNat:Int) 32∧bits BinOp.or IntKind.u8 (c.toNat:Int) 32≤122∧65≤(c.toNat:Int) then true
  else if 48≤(c.toNat:Int)∧(c.toNat:Int)≤57 then true
  else decide (0≤Lib.indexByte [46,95,47,43,64,45] c) && (decide (Lib.indexByte [46,95,47,43,64,45] c<5) || pos)) Lr c pos
def plainLen:Bool→List UInt8→Nat
 | _,[]=>0
 | pos,c :: r=>if stands c pos then plainLen true r+1 else 0
theorem plainLen_drop {pos:Bool} {l:List UInt8} {k:Nat} (h:k<l.length) :
  plainLen pos (l.drop k)=if stands l[k] pos then plainLen true (l.drop (k+1))+1 else 0:=by
 rw [List.drop_eq_getElem_cons h];rfl
theorem plainLen_le (l:List UInt8) (pos:Bool):plainLen pos l≤l.length:=by
 induction l generalizing pos with
 | nil=>simp [plainLen]
 | cons c r ih=>simp only [plainLen];split<;>simp;exact ih true
def plain (l:List UInt8):Bool:=!l.isEmpty && ((plainLen false l:Int) == (l.length:Int))
def Ls (n:Nat):UInt8:=if n<10 then UInt8.ofNat (48+n) else UInt8.ofNat (87+n)
def word (c:UInt8):List UInt8:=
 if c=34∨c=92 then [c] else if c=10 then [110] else if c=9 then [116]
 else if c<32∨c=127 then [120,Ls (c.toNat / 16),Ls (c.toNat % 16)] else []
def Ph:ByteArray:=⟨#[48,49,50,51,52,53,54,55,56,57,97,98,99,100,101,102]⟩
theorem Of:∀ n:Nat,n<256→(if n=34∨n=92 then (Utf8.encode (n:Int)).data.toList else if n=10 then [110] else if n=9 then [116] else if n<32∨n=127 then
  ((⟨#[120]⟩:ByteArray) ++ Ph.extract (n / 16) (n / 16+1) ++ Ph.extract (n % 16) (n % 16+1)).data.toList else [])=P18.word (UInt8.ofNat n):=by decide +kernel
theorem bytes_ext {a:ByteArray} {l:List UInt8} (h:a.data.toList=l):a=⟨l.toArray⟩:=by
 cases a;subst h;rfl
theorem word_ends (c:UInt8):(if c.toNat=34∨c.toNat=92 then Utf8.encode (c.toNat:Int) else if c.toNat=10 then ⟨#[110]⟩ else if c.toNat=9 then ⟨#[116]⟩ else if c.toNat<32∨c.toNat=127 then
  (⟨#[120]⟩:ByteArray) ++ Ph.extract (c.toNat / 16) (c.toNat / 16+1) ++ Ph.extract (c.toNat % 16) (c.toNat % 16+1) else ⟨#[]⟩)=⟨(P18.word c).toArray⟩:=by
 have h:=Of c.toNat c.toNat_lt
 simp only [UInt8.ofNat_toNat] at h
 rw [← h]
 apply bytes_ext
 repeat' split
 all_goals rfl
def cutQ:Nat→Bool→List UInt8→Option Nat
 | _,_,[]=>none
 | i,taken,c :: r=>if ((i:Int) == 0)=true then cutQ (i+1) taken r else if taken=true then cutQ (i+1) false r
  else if ((c.toNat:Int) == 92)=true then cutQ (i+1) true r else if ((c.toNat:Int) == 34)=true then some (i+1) else cutQ (i+1) taken r
theorem cutQ_drop {i:Nat} {t:Bool} {l:List UInt8} (h:i<l.length) :
  cutQ i t (l.drop i)=if ((i:Int) == 0)=true then cutQ (i+1) t (l.drop (i+1)) else if t=true then cutQ (i+1) false (l.drop (i+1))
   else if ((l[i].toNat:Int) == 92)=true then cutQ (i+1) true (l.drop (i+1)) else if ((l[i].toNat:Int) == 34)=true then some (i+1) else cutQ (i+1) t (l.drop (i+1)):=by
 rw [List.drop_eq_getElem_cons h];rfl
def cut (l:List UInt8):Nat × Nat:=
 if Lib.hasPrefix l [34] then (match cutQ 0 false l with | some n=>(n,0) | none=>(0,3))
 else if ((plainLen false l:Int) == 0)=true then (0,3) else (plainLen false l,0)
theorem Th:∀ n,n<256→-1≤Lib.indexByte [48,49,50,51,52,53,54,55,56,57,97,98,99,100,101,102] (UInt8.ofNat n)∧Lib.indexByte [48,49,50,51,52,53,54,55,56,57,97,98,99,100,101,102] (UInt8.ofNat n)<16:=by decide +kernel
theorem idx_bd (c:UInt8):-1≤Lib.indexByte [48,49,50,51,52,53,54,55,56,57,97,98,99,100,101,102] c∧Lib.indexByte [48,49,50,51,52,53,54,55,56,57,97,98,99,100,101,102] c<16:=
 D1 (p:=fun c=>-1≤Lib.indexByte [48,49,50,51,52,53,54,55,56,57,97,98,99,100,101,102] c∧Lib.indexByte [48,49,50,51,52,53,54,55,56,57,97,98,99,100,101,102] c<16) Th c
def hexThree (a b c:UInt8):Int × Int:=
 if (a != 120)=true then (0,0)
 else if Lib.indexByte [48,49,50,51,52,53,54,55,56,57,97,98,99,100,101,102] b<0 then (0,0) else if Lib.indexByte [48,49,50,51,52,53,54,55,56,57,97,98,99,100,101,102] c<0 then (0,0)
 else if 127<Lib.indexByte [48,49,50,51,52,53,54,55,56,57,97,98,99,100,101,102] b * 16+Lib.indexByte [48,49,50,51,52,53,54,55,56,57,97,98,99,100,101,102] c then (0,0)
 else (Lib.indexByte [48,49,50,51,52,53,54,55,56,57,97,98,99,100,101,102] b * 16+Lib.indexByte [48,49,50,51,52,53,54,55,56,57,97,98,99,100,101,102] c,3)
def hexTail (l:List UInt8):Int × Int:=
 if l.length<3 then (0,0) else hexThree (l.getD 0 0) (l.getD 1 0) (l.getD 2 0)
def startsWord (l:List UInt8) (c:Nat):Bool:=!(word (UInt8.ofNat c)).isEmpty && Lib.hasPrefix l (word (UInt8.ofNat c))
def behind (l:List UInt8):Int × Int:=
 match (List.range 128).find? (startsWord l) with
 | some c=>((c:Int),((word (UInt8.ofNat c)).length:Int))
 | none=>hexTail l
theorem range_drop {n k:Nat} (h:k<n):(List.range n).drop k=k :: (List.range n).drop (k+1):=by
 rw [List.drop_eq_getElem_cons (by simpa using h)];simp
def quoteOne (c:UInt8):List UInt8:=if (word c).isEmpty=true then [c] else 92 :: word c
def quote (l:List UInt8):List UInt8:=34 :: (l.flatMap quoteOne ++ [34])
theorem quote_drop {l:List UInt8} {k:Nat} (h:k<l.length):(l.drop k).flatMap quoteOne=quoteOne l[k] ++ (l.drop (k+1)).flatMap quoteOne:=by
 rw [List.drop_eq_getElem_cons h];rfl
theorem word_len (c:UInt8):(word c).length≤3:=by
 unfold word;repeat' split
 all_goals simp
theorem quoteOne_len (c:UInt8):(quoteOne c).length≤4:=by
 have:=word_len c
 unfold quoteOne;split
 ·simp
 ·simp;omega
end P18
end Go.Proofs.YtnjokdbblmlhhaaGreatDoor
namespace Go.Proofs.YtnjokdbblmlhhaaGreatDoor
set_option linter.unusedVariables false
set_option linter.unusedSimpArgs false
namespace P18
theorem Mb (a b c:UInt8):0≤(hexThree a b c).1∧(hexThree a b c).1<256∧0≤(hexThree a b c).2∧(hexThree a b c).2≤3:=by
 unfold hexThree
 have:=idx_bd b
 have:=idx_bd c
 repeat' split
 all_goals simp
 all_goals omega
theorem Qn (l:List UInt8):0≤(behind l).1∧(behind l).1<256∧0≤(behind l).2∧(behind l).2≤3:=by
 unfold behind
 split
 ·rename_i c hc
  have h1:=List.mem_of_find?_eq_some hc
  have h2:=word_len (UInt8.ofNat c)
  simp at h1
  simp only
  omega
 ·unfold hexTail
  split
  ·simp
  ·exact Mb _ _ _
theorem behind_nat (l:List UInt8):∃ (c:UInt8) (n:Nat),behind l=((c.toNat:Int),(n:Int))∧n≤3:=by
 obtain ⟨h1,h2,h3,h4⟩:=Qn l
 refine ⟨UInt8.ofNat (behind l).1.toNat,(behind l).2.toNat,?_,by omega⟩
 apply Prod.ext
 ·simp;omega
 ·simp;omega
def within (l:List UInt8):Option (List UInt8):=
 match l with
 | []=>some []
 | c :: r=>if (c.toNat:Int)<32∨((c.toNat:Int) == 127)=true then none
  else if ((c.toNat:Int) == 92)=true then (if ((behind r).2 == 0)=true then none else (within (r.drop (behind r).2.toNat)).map (UInt8.ofNat (behind r).1.toNat :: ·))
  else (within r).map (c :: ·)
termination_by l.length
decreasing_by
 all_goals simp
 all_goals omega
theorem within_nil:within []=some []:=by unfold within;simp only
theorem within_cons (c:UInt8) (r:List UInt8):within (c :: r)=if (c.toNat:Int)<32∨((c.toNat:Int) == 127)=true then none
  else if ((c.toNat:Int) == 92)=true then (if ((behind r).2 == 0)=true then none else (within (r.drop (behind r).2.toNat)).map (UInt8.ofNat (behind r).1.toNat :: ·))
  else (within r).map (c :: ·):=by conv=>lhs;unfold within
theorem within_drop {l:List UInt8} {k:Nat} (h:k<l.length):within (l.drop k)=within (l[k] :: l.drop (k+1)):=by rw [List.drop_eq_getElem_cons h]
end P18
end Go.Proofs.YtnjokdbblmlhhaaGreatDoor
namespace Go.Proofs.YtnjokdbblmlhhaaGreatDoor
set_option linter.unusedVariables false
set_option linter.unusedSimpArgs false
theorem Vv (l:List UInt8):(⟨l.toArray⟩:ByteArray).data.toList=l:=by simp
namespace P18
theorem cutQ_bd (l:List UInt8):∀ (i:Nat) (t:Bool) (n:Nat),cutQ i t l=some n→2≤n∧n≤i+l.length:=by
 induction l with
 | nil=>intro i t n h;simp [cutQ] at h
 | cons c r ih=>
  intro i t n h
  simp only [cutQ] at h
  split at h
  ·have:=ih _ _ _ h;simp;omega
  ·split at h
   ·have:=ih _ _ _ h;simp;omega
   ·split at h
    ·have:=ih _ _ _ h;simp;omega
    ·split at h
     ·rename_i h0 _ _ _
      simp at h h0
      simp;omega
     ·have:=ih _ _ _ h;simp;omega
theorem cut_ok (l:List UInt8) (h:(cut l).2=0) (hq:Lib.hasPrefix l [34]=true):2≤(cut l).1∧(cut l).1≤l.length:=by
 unfold cut at h ⊢
 rw [if_pos hq] at h ⊢
 cases hc:cutQ 0 false l with
 | none=>rw [hc] at h;simp at h
 | some n=>have:=cutQ_bd l 0 false n hc;simpa using this
def chk (t:List UInt8):List UInt8 × Int:=if (P03.check t 4096 != 0)=true then ([],P03.check t 4096) else (t,0)
def readF (n c:Nat) (l:List UInt8):List UInt8 × Int:=
 if ((c:Int) != 0)=true∨((n:Int) != (l.length:Int))=true then ([],3)
 else if ((((l.getD 0 0).toNat:Int)) == 34)=true then (match within ((l.drop 1).take (n - 2)) with | none=>([],3) | some b=>chk b)
 else chk l
def read (l:List UInt8):List UInt8 × Int:=readF (cut l).1 (cut l).2 l
theorem readF_bad {n c:Nat} {l:List UInt8} (h:c≠0∨n≠l.length):readF n c l=([],3):=by
 unfold readF;rw [if_pos];simp;omega
theorem readF_plain {l:List UInt8} (h:(l.getD 0 0).toNat≠34):readF l.length 0 l=chk l:=by
 unfold readF;rw [if_neg (by simp),if_neg (by simp only [beq_iff_eq];omega)]
theorem readF_none {l:List UInt8} (h:(l.getD 0 0).toNat=34) (hw:within ((l.drop 1).take (l.length - 2))=none):readF l.length 0 l=([],3):=by
 unfold readF;rw [if_neg (by simp),if_pos (by simp only [beq_iff_eq];omega),hw]
theorem readF_some {l b:List UInt8} (h:(l.getD 0 0).toNat=34) (hw:within ((l.drop 1).take (l.length - 2))=some b):readF l.length 0 l=chk b:=by
 unfold readF;rw [if_neg (by simp),if_pos (by simp only [beq_iff_eq];omega),hw]
theorem cut_pos (l:List UInt8) (h:(cut l).2=0):0<l.length:=by
 cases l with
 | nil=>simp [cut,Lib.hasPrefix,plainLen] at h
 | cons _ _=>simp
theorem within_len {l:List UInt8}:∀ {b:List UInt8},within l=some b→b.length≤l.length:=by
 induction hn:l.length using Nat.strongRecOn generalizing l with
 | _ n ih=>
  intro b h
  cases l with
  | nil=>rw [within_nil] at h;simp at h;subst h;simp
  | cons c r=>
   rw [within_cons] at h
   simp only [List.length_cons] at hn
   split at h
   ·simp at h
   ·split at h
    ·split at h
     ·simp at h
     ·simp only [Option.map_eq_some_iff] at h
      obtain ⟨a,h1,rfl⟩:=h
      have:=ih _ (by rw [← hn];simp;omega) rfl h1
      simp at this ⊢;omega
    ·simp only [Option.map_eq_some_iff] at h
     obtain ⟨a,h1,rfl⟩:=h
     have:=ih _ (by omega) rfl h1
     simp;omega
theorem prefix_iff (l:List UInt8):Lib.hasPrefix l [34]=true↔0<l.length∧(l.getD 0 0).toNat=34:=by
 match l with
 | []=>simp [Lib.hasPrefix]
 | a :: r=>simp [Lib.hasPrefix,← UInt8.toNat_inj];omega
end P18
end Go.Proofs.YtnjokdbblmlhhaaGreatDoor
namespace Go.Proofs.YtnjokdbblmlhhaaGreatDoor
set_option linter.unusedVariables false
set_option linter.unusedSimpArgs false
abbrev Tk:=Nat × List UInt8 × Int × Int
namespace P19
def skip (l:List UInt8):Nat:=(l.takeWhile (· == 32)).length
theorem skip_drop:∀ l:List UInt8,l.drop (skip l)=Fo l
 | []=>rfl
 | c :: r=>by
  unfold skip Fo
  by_cases h:c=32
  ·subst h
   have ih:=skip_drop r
   unfold skip Fo at ih
   rw [List.takeWhile_cons_of_pos (by rfl),List.dropWhile_cons_of_pos (by rfl),List.length_cons,List.drop_succ_cons]
   exact ih
  ·rw [List.takeWhile_cons_of_neg (by simpa using h),List.dropWhile_cons_of_neg (by simpa using h)]
   rfl
theorem skip_le (l:List UInt8):skip l≤l.length:=by
 unfold skip
 exact (List.takeWhile_prefix _).length_le
def signB (c:UInt8) (l:List UInt8):Bool:=match l with
 | []=>false
 | a :: r=>a == c && (match r with | []=>true | b :: _=>b == 32)
def B5 (n col:Int) (s:List UInt8):Tk × Int:=
 if s=[91,93] then ((6,[],n,col),0)
 else if s=[123,125] then ((7,[],n,col),0)
 else if (P18.cut s).2≠0∨(P18.cut s).1≠s.length then ((0,[],0,0),3)
 else ((5,(P18.read s).1,n,col),(P18.read s).2)
def line:Nat→Int→Int→List UInt8→List Tk × Int
 | 0,_,_,_=>([],0)
 | f+1,n,col,s=>
  if signB 45 s then
   if 1+skip (s.drop 1)=s.length then ([(3,[],n,col)],0)
   else if (line f n (col+(1+skip (s.drop 1):Nat)) (s.drop (1+skip (s.drop 1)))).2≠0 then ([],(line f n (col+(1+skip (s.drop 1):Nat)) (s.drop (1+skip (s.drop 1)))).2)
   else ((3,[],n,col) :: (line f n (col+(1+skip (s.drop 1):Nat)) (s.drop (1+skip (s.drop 1)))).1,0)
  else if s=[91,93] then ([(6,[],n,col)],0)
  else if s=[123,125] then ([(7,[],n,col)],0)
  else if (P18.cut s).2≠0 then ([],3)
  else if (P18.cut s).1<s.length∧signB 58 (s.drop (P18.cut s).1)=false then ([],3)
  else if (P18.read (s.take (P18.cut s).1)).2≠0 then ([],(P18.read (s.take (P18.cut s).1)).2)
  else if (P18.cut s).1=s.length then ([(5,(P18.read (s.take (P18.cut s).1)).1,n,col)],0)
  else if (P18.cut s).1+1+skip (s.drop ((P18.cut s).1+1))=s.length then ([(4,(P18.read (s.take (P18.cut s).1)).1,n,col)],0)
  else if (B5 n (col+((P18.cut s).1+1+skip (s.drop ((P18.cut s).1+1)):Nat)) (s.drop ((P18.cut s).1+1+skip (s.drop ((P18.cut s).1+1))))).2≠0 then
   ([],(B5 n (col+((P18.cut s).1+1+skip (s.drop ((P18.cut s).1+1)):Nat)) (s.drop ((P18.cut s).1+1+skip (s.drop ((P18.cut s).1+1))))).2)
  else ([(4,(P18.read (s.take (P18.cut s).1)).1,n,col),(B5 n (col+((P18.cut s).1+1+skip (s.drop ((P18.cut s).1+1)):Nat)) (s.drop ((P18.cut s).1+1+skip (s.drop ((P18.cut s).1+1))))).1],0)
def toks (n col:Int) (s:List UInt8):List Tk × Int:=line (s.length+1) n col s
theorem He (s:List UInt8) (h:signB 45 s=true):(s.drop (1+skip (s.drop 1))).length<s.length:=by
 cases s with
 | nil=>cases h
 | cons a r=>simp;omega
abbrev Pt:=Int × Int × List UInt8
def next (B5:Bool) (n col:Int) (s:List UInt8):Tk × Pt × Int:=
 if (signB 45 s && !B5)=true then ((3,[],n,col),(n,col+(1+skip (s.drop 1):Nat),s.drop (1+skip (s.drop 1))),0)
 else if s=[91,93] then ((6,[],n,col),(0,0,[]),0)
 else if s=[123,125] then ((7,[],n,col),(0,0,[]),0)
 else if (P18.cut s).2≠0 then ((0,[],0,0),(n,col,s),(P18.cut s).2)
 else if s.drop (P18.cut s).1≠[]∧(signB 58 (s.drop (P18.cut s).1) && !B5)=false then ((0,[],0,0),(n,col,s),3)
 else if (P18.read (s.take (P18.cut s).1)).2≠0 then ((0,[],0,0),(n,col,s),(P18.read (s.take (P18.cut s).1)).2)
 else if (signB 58 (s.drop (P18.cut s).1) && !B5)=true then ((4,(P18.read (s.take (P18.cut s).1)).1,n,col),(n,col+((P18.cut s).1+1+skip (s.drop ((P18.cut s).1+1)):Nat),s.drop ((P18.cut s).1+1+skip (s.drop ((P18.cut s).1+1)))),0)
 else ((5,(P18.read (s.take (P18.cut s).1)).1,n,col),(0,0,[]),0)
end P19
end Go.Proofs.YtnjokdbblmlhhaaGreatDoor
namespace Go.Proofs.YtnjokdbblmlhhaaGreatDoor
set_option linter.unusedVariables false
set_option linter.unusedSimpArgs false
theorem I5 {s:ByteArray} (h:0<s.size):s.toList.isEmpty=false:=by
 rw [Lib.toList_data]
 have:=Lib.size_eq s
 cases hl:s.data.toList with
 | nil=>rw [hl] at this;rw [this] at h;exact absurd h (by simp)
 | cons _ _=>rfl
namespace P18
def numLoop:Nat→List UInt8→Int × Int
 | n,[]=>((n:Int),0)
 | n,c :: r=>if (c.toNat:Int)<48∨57<(c.toNat:Int) then (0,3) else numLoop (n * 10+(c.toNat - 48)) r
theorem numLoop_drop {n:Nat} {l:List UInt8} {k:Nat} (h:k<l.length) :
  numLoop n (l.drop k)=if (l[k].toNat:Int)<48∨57<(l[k].toNat:Int) then (0,3) else numLoop (n * 10+(l[k].toNat - 48)) (l.drop (k+1)):=by
 rw [List.drop_eq_getElem_cons h];rfl
def number (l:List UInt8):Int × Int:=
 if l.length=0∨9<l.length∨(1<l.length∧(l.getD 0 0).toNat=48) then (0,3) else numLoop 0 l
theorem pow_le {k:Nat} (h:k≤8):10 ^ k≤100000000:=Nat.pow_le_pow_right (by omega) h
end P18
end Go.Proofs.YtnjokdbblmlhhaaGreatDoor
namespace Go.Proofs.YtnjokdbblmlhhaaGreatDoor
set_option linter.unusedVariables false
set_option linter.unusedSimpArgs false
namespace R18
open P18
theorem Ny:∀ n,n<256→∀ first:Bool,P18.stands (UInt8.ofNat n) (!first) =
  ((decide (97≤((UInt8.ofNat n).toNat:Int)) && decide (((UInt8.ofNat n).toNat:Int)≤122)) || (decide (65≤((UInt8.ofNat n).toNat:Int)) && decide (((UInt8.ofNat n).toNat:Int)≤90)) || (decide (48≤((UInt8.ofNat n).toNat:Int)) && decide (((UInt8.ofNat n).toNat:Int)≤57)) ||
   decide (((UInt8.ofNat n).toNat:Int)=46) || decide (((UInt8.ofNat n).toNat:Int)=95) || decide (((UInt8.ofNat n).toNat:Int)=47) || decide (((UInt8.ofNat n).toNat:Int)=43) || decide (((UInt8.ofNat n).toNat:Int)=64) || (decide (((UInt8.ofNat n).toNat:Int)=45) && !first)):=by decide +kernel
theorem plain_key (c:UInt8) (first:Bool):P18.stands c (!first) =
  ((decide (97≤(c.toNat:Int)) && decide ((c.toNat:Int)≤122)) || (decide (65≤(c.toNat:Int)) && decide ((c.toNat:Int)≤90)) || (decide (48≤(c.toNat:Int)) && decide ((c.toNat:Int)≤57)) ||
   decide ((c.toNat:Int)=46) || decide ((c.toNat:Int)=95) || decide ((c.toNat:Int)=47) || decide ((c.toNat:Int)=43) || decide ((c.toNat:Int)=64) || (decide ((c.toNat:Int)=45) && !first)):=by
 have h:=Ny c.toNat c.toNat_lt first
 simpa only [UInt8.ofNat_toNat] using h
def allPlain:Bool→List UInt8→Bool
 | _,[]=>true
 | pos,c :: r=>if stands c pos=true then allPlain true r else false
theorem allPlain_drop {pos:Bool} {l:List UInt8} {k:Nat} (h:k<l.length):allPlain pos (l.drop k)=if stands l[k] pos=true then allPlain true (l.drop (k+1)) else false:=by
 rw [List.drop_eq_getElem_cons h];rfl
theorem Ll (l:List UInt8):∀ pos,allPlain pos l=((plainLen pos l:Int) == (l.length:Int)):=by
 induction l with
 | nil=>intro pos;rfl
 | cons c r ih=>
  intro pos
  simp only [allPlain,plainLen,List.length_cons]
  by_cases h:stands c pos=true
  ·rw [if_pos h,if_pos h,ih true]
   rw [Bool.eq_iff_iff];simp only [beq_iff_eq];omega
  ·rw [if_neg h,if_neg h]
   symm;rw [beq_eq_false_iff_ne];omega
theorem plain_eq (l:List UInt8):P18.plain l=(allPlain false l && decide (0<(l.length:Int))):=by
 rw [Ll,P18.plain]
 cases l with
 | nil=>rfl
 | cons c r=>simp
end R18
end Go.Proofs.YtnjokdbblmlhhaaGreatDoor
namespace Go.Proofs.YtnjokdbblmlhhaaGreatDoor
set_option linter.unusedVariables false
set_option linter.unusedSimpArgs false
namespace R18
open P18
end R18
end Go.Proofs.YtnjokdbblmlhhaaGreatDoor
namespace Go.Proofs.YtnjokdbblmlhhaaGreatDoor
set_option linter.unusedVariables false
set_option linter.unusedSimpArgs false
namespace R18
open P18
end R18
end Go.Proofs.YtnjokdbblmlhhaaGreatDoor
namespace Go.Proofs.YtnjokdbblmlhhaaGreatDoor
set_option linter.unusedVariables false
set_option linter.unusedSimpArgs false
open Go.RowKit
end Go.Proofs.YtnjokdbblmlhhaaGreatDoor
namespace Go.Proofs.YtnjokdbblmlhhaaGreatDoor
set_option linter.unusedVariables false
set_option linter.unusedSimpArgs false
namespace R18
open P18
end R18
end Go.Proofs.YtnjokdbblmlhhaaGreatDoor
namespace Go.Proofs.YtnjokdbblmlhhaaGreatDoor
set_option linter.unusedVariables false
set_option linter.unusedSimpArgs false
namespace P20
inductive T where
 | mk (kind:Nat) (text:List UInt8) (keys:List (List UInt8)) (kids:List T) (line:Int)
def hereL (last:Int):List Tk→Int
 | []=>last
 | t :: _=>t.2.2.1
def kindOf:List Tk→Nat
 | []=>0
 | t :: _=>t.1
inductive Out (α:Type) where
 | ok (a:α) (ts:List Tk)
 | bad (e line:Int)
mutual
inductive Val (last:Int):Nat→Nat→List Tk→Out T→Prop
 | deep {f lv:Nat} {ts:List Tk} (h:16<lv):Val last (f+1) lv ts (.bad 11 (hereL last ts))
 | none_ {f lv:Nat} (h:lv≤16):Val last (f+1) lv [] (.bad 3 last)
 | word {f lv:Nat} {x:List UInt8} {n c:Int} {r:List Tk} (h:lv≤16):Val last (f+1) lv ((5,x,n,c) :: r) (.ok (.mk 1 x [] [] n) r)
 | noseq {f lv:Nat} {x:List UInt8} {n c:Int} {r:List Tk} (h:lv≤16):Val last (f+1) lv ((6,x,n,c) :: r) (.ok (.mk 2 [] [] [] n) r)
 | nomap {f lv:Nat} {x:List UInt8} {n c:Int} {r:List Tk} (h:lv≤16):Val last (f+1) lv ((7,x,n,c) :: r) (.ok (.mk 3 [] [] [] n) r)
 | seq {f lv:Nat} {x:List UInt8} {n c:Int} {r r':List Tk} {ds:List T} (h:lv≤16) (hs:Sq last f (lv+1) [] ((3,x,n,c) :: r) (.ok ds r')):Val last (f+1) lv ((3,x,n,c) :: r) (.ok (.mk 2 [] [] ds n) r')
 | seqbad {f lv:Nat} {x:List UInt8} {n c e l:Int} {r:List Tk} (h:lv≤16) (hs:Sq last f (lv+1) [] ((3,x,n,c) :: r) (.bad e l)):Val last (f+1) lv ((3,x,n,c) :: r) (.bad e l)
 | keys {f lv:Nat} {x:List UInt8} {n c:Int} {r r':List Tk} {ks:List (List UInt8)} {ds:List T} (h:lv≤16) (hs:Ky last f (lv+1) [] [] ((4,x,n,c) :: r) (.ok (ks,ds) r')):Val last (f+1) lv ((4,x,n,c) :: r) (.ok (.mk 3 [] ks ds n) r')
 | keysbad {f lv:Nat} {x:List UInt8} {n c e l:Int} {r:List Tk} (h:lv≤16) (hs:Ky last f (lv+1) [] [] ((4,x,n,c) :: r) (.bad e l)):Val last (f+1) lv ((4,x,n,c) :: r) (.bad e l)
 | form {f lv k:Nat} {x:List UInt8} {n c:Int} {r:List Tk} (h:lv≤16) (hk:k<3∨7<k):Val last (f+1) lv ((k,x,n,c) :: r) (.bad 3 n)
inductive Wi (last:Int):Nat→Nat→Int→List Tk→Out T→Prop
 | empty {f lv:Nat} {line:Int} {ts:List Tk} (h:kindOf ts≠1):Wi last (f+1) lv line ts (.bad 17 line)
 | ok {f lv:Nat} {line n c n' c':Int} {x x':List UInt8} {ts r:List Tk} {d:T} (h:Val last f lv ts (.ok d ((2,x',n',c') :: r))):Wi last (f+1) lv line ((1,x,n,c) :: ts) (.ok d r)
 | form {f lv:Nat} {line n c:Int} {x:List UInt8} {ts r:List Tk} {d:T} (h:Val last f lv ts (.ok d r)) (hk:kindOf r≠2):Wi last (f+1) lv line ((1,x,n,c) :: ts) (.bad 3 (hereL last r))
 | bad {f lv:Nat} {line n c e l:Int} {x:List UInt8} {ts:List Tk} (h:Val last f lv ts (.bad e l)):Wi last (f+1) lv line ((1,x,n,c) :: ts) (.bad e l)
inductive Sq (last:Int):Nat→Nat→List T→List Tk→Out (List T)→Prop
 | done {f lv:Nat} {acc:List T} {ts:List Tk} (h:kindOf ts≠3):Sq last (f+1) lv acc ts (.ok acc ts)
 | next {f lv:Nat} {acc:List T} {x:List UInt8} {n c:Int} {r r':List Tk} {d:T} {o:Out (List T)} (h:Wi last f lv n r (.ok d r')) (hs:Sq last f lv (acc ++ [d]) r' o):Sq last (f+1) lv acc ((3,x,n,c) :: r) o
 | bad {f lv:Nat} {acc:List T} {x:List UInt8} {n c e l:Int} {r:List Tk} (h:Wi last f lv n r (.bad e l)):Sq last (f+1) lv acc ((3,x,n,c) :: r) (.bad e l)
inductive Ky (last:Int):Nat→Nat→List (List UInt8)→List T→List Tk→Out (List (List UInt8) × List T)→Prop
 | done {f lv:Nat} {ks:List (List UInt8)} {ds:List T} {ts:List Tk} (h:kindOf ts≠4):Ky last (f+1) lv ks ds ts (.ok (ks,ds) ts)
 | long {f lv:Nat} {ks:List (List UInt8)} {ds:List T} {x:List UInt8} {n c:Int} {r:List Tk} (h:64<x.length):Ky last (f+1) lv ks ds ((4,x,n,c) :: r) (.bad 2 n)
 | twice {f lv:Nat} {ks:List (List UInt8)} {ds:List T} {x:List UInt8} {n c:Int} {r:List Tk} (h:x.length≤64) (hx:x∈ks):Ky last (f+1) lv ks ds ((4,x,n,c) :: r) (.bad 6 n)
 | inl {f lv:Nat} {ks:List (List UInt8)} {ds:List T} {x:List UInt8} {n c:Int} {r r':List Tk} {d:T} {o:Out (List (List UInt8) × List T)} (h:x.length≤64) (hx:x∉ks) (hi:5≤kindOf r∧kindOf r≤7∧hereL last r=n) (hv:Val last f lv r (.ok d r')) (hs:Ky last f lv (ks ++ [x]) (ds ++ [d]) r' o):Ky last (f+1) lv ks ds ((4,x,n,c) :: r) o
 | inlbad {f lv:Nat} {ks:List (List UInt8)} {ds:List T} {x:List UInt8} {n c e l:Int} {r:List Tk} (h:x.length≤64) (hx:x∉ks) (hi:5≤kindOf r∧kindOf r≤7∧hereL last r=n) (hv:Val last f lv r (.bad e l)):Ky last (f+1) lv ks ds ((4,x,n,c) :: r) (.bad e l)
 | wi {f lv:Nat} {ks:List (List UInt8)} {ds:List T} {x:List UInt8} {n c:Int} {r r':List Tk} {d:T} {o:Out (List (List UInt8) × List T)} (h:x.length≤64) (hx:x∉ks) (hi:¬ (5≤kindOf r∧kindOf r≤7∧hereL last r=n)) (hv:Wi last f lv n r (.ok d r')) (hs:Ky last f lv (ks ++ [x]) (ds ++ [d]) r' o):Ky last (f+1) lv ks ds ((4,x,n,c) :: r) o
 | wibad {f lv:Nat} {ks:List (List UInt8)} {ds:List T} {x:List UInt8} {n c e l:Int} {r:List Tk} (h:x.length≤64) (hx:x∉ks) (hi:¬ (5≤kindOf r∧kindOf r≤7∧hereL last r=n)) (hv:Wi last f lv n r (.bad e l)):Ky last (f+1) lv ks ds ((4,x,n,c) :: r) (.bad e l)
end
theorem Rw (last:Int):∀ f:Nat,(∀ lv ts o,Val last f lv ts o→Val last (f+1) lv ts o)∧(∀ lv l ts o,Wi last f lv l ts o→Wi last (f+1) lv l ts o) ∧
  (∀ lv acc ts o,Sq last f lv acc ts o→Sq last (f+1) lv acc ts o)∧(∀ lv ks ds ts o,Ky last f lv ks ds ts o→Ky last (f+1) lv ks ds ts o)
 | 0=>⟨fun _ _ _ h=>(by cases h),fun _ _ _ _ h=>(by cases h),fun _ _ _ _ h=>(by cases h),fun _ _ _ _ _ h=>(by cases h)⟩
 | f+1=>by
  obtain ⟨hv,hw,hs,hk⟩:=Rw last f
  refine ⟨fun lv ts o h=>?_,fun lv l ts o h=>?_,fun lv acc ts o h=>?_,fun lv ks ds ts o h=>?_⟩
  ·cases h with
   | deep h=>exact .deep h
   | none_ h=>exact .none_ h
   | word h=>exact .word h
   | noseq h=>exact .noseq h
   | nomap h=>exact .nomap h
   | seq h h2=>exact .seq h (hs _ _ _ _ h2)
   | seqbad h h2=>exact .seqbad h (hs _ _ _ _ h2)
   | keys h h2=>exact .keys h (hk _ _ _ _ _ h2)
   | keysbad h h2=>exact .keysbad h (hk _ _ _ _ _ h2)
   | form h h2=>exact .form h h2
  ·cases h with
   | empty h=>exact .empty h
   | ok h=>exact .ok (hv _ _ _ h)
   | form h h2=>exact .form (hv _ _ _ h) h2
   | bad h=>exact .bad (hv _ _ _ h)
  ·cases h with
   | done h=>exact .done h
   | next h h2=>exact .next (hw _ _ _ _ h) (hs _ _ _ _ h2)
   | bad h=>exact .bad (hw _ _ _ _ h)
  ·cases h with
   | done h=>exact .done h
   | long h=>exact .long h
   | twice h h2=>exact .twice h h2
   | inl h h2 h3 h4 h5=>exact .inl h h2 h3 (hv _ _ _ h4) (hk _ _ _ _ _ h5)
   | inlbad h h2 h3 h4=>exact .inlbad h h2 h3 (hv _ _ _ h4)
   | wi h h2 h3 h4 h5=>exact .wi h h2 h3 (hw _ _ _ _ h4) (hk _ _ _ _ _ h5)
   | wibad h h2 h3 h4=>exact .wibad h h2 h3 (hw _ _ _ _ h4)
inductive Rd (last:Int) (f:Nat) (ts:List Tk):Except (Int × Int) T→Prop
 | ok {d:T} (h:Val last f 1 ts (.ok d [])):Rd last f ts (.ok d)
 | left {d:T} {t:Tk} {r:List Tk} (h:Val last f 1 ts (.ok d (t :: r))):Rd last f ts (.error (3,t.2.2.1))
 | bad {e l:Int} (h:Val last f 1 ts (.bad e l)):Rd last f ts (.error (e,l))
theorem Ky.rest {last:Int} {f lv:Nat} {ks:List (List UInt8)} {ds:List T} {x:List UInt8} {n c:Int} {r:List Tk} {o:Out (List (List UInt8) × List T)} (h:Ky last f lv ks ds ((4,x,n,c) :: r) o) (hx:x.length≤64) (hm:x∉ks) :
    ∃ g,f=g+1 ∧
      (((5≤kindOf r∧kindOf r≤7∧hereL last r=n)∧((∃ d r',Val last g lv r (.ok d r')∧Ky last g lv (ks ++ [x]) (ds ++ [d]) r' o)∨(∃ e l,Val last g lv r (.bad e l)∧o=.bad e l))) ∨
       (¬ (5≤kindOf r∧kindOf r≤7∧hereL last r=n)∧((∃ d r',Wi last g lv n r (.ok d r')∧Ky last g lv (ks ++ [x]) (ds ++ [d]) r' o)∨(∃ e l,Wi last g lv n r (.bad e l)∧o=.bad e l)))):=by
  cases h with
  | done h=>exact absurd rfl h
  | long h=>omega
  | twice h h2=>exact absurd h2 hm
  | inl h h2 h3 h4 h5=>exact ⟨_,rfl,.inl ⟨h3,.inl ⟨_,_,h4,h5⟩⟩⟩
  | inlbad h h2 h3 h4=>exact ⟨_,rfl,.inl ⟨h3,.inr ⟨_,_,h4,rfl⟩⟩⟩
  | wi h h2 h3 h4 h5=>exact ⟨_,rfl,.inr ⟨h3,.inl ⟨_,_,h4,h5⟩⟩⟩
  | wibad h h2 h3 h4=>exact ⟨_,rfl,.inr ⟨h3,.inr ⟨_,_,h4,rfl⟩⟩⟩
theorem Ky.way {last:Int} {f lv:Nat} {ks:List (List UInt8)} {ds:List T} {ts:List Tk} {o:Out (List (List UInt8) × List T)} (h:Ky last f lv ks ds ts o) :
  (kindOf ts≠4∧o=.ok (ks,ds) ts)∨∃ x n c r,ts=(4,x,n,c) :: r∧((64<x.length∧o=.bad 2 n)∨(x.length≤64∧x∈ks∧o=.bad 6 n)∨(x.length≤64∧x∉ks)):=by
 cases h with
 | done h=>exact .inl ⟨h,rfl⟩
 | long h=>exact .inr ⟨_,_,_,_,rfl,.inl ⟨h,rfl⟩⟩
 | twice h h2=>exact .inr ⟨_,_,_,_,rfl,.inr (.inl ⟨h,h2,rfl⟩)⟩
 | inl h h2 h3 h4 h5=>exact .inr ⟨_,_,_,_,rfl,.inr (.inr ⟨h,h2⟩)⟩
 | inlbad h h2 h3 h4=>exact .inr ⟨_,_,_,_,rfl,.inr (.inr ⟨h,h2⟩)⟩
 | wi h h2 h3 h4 h5=>exact .inr ⟨_,_,_,_,rfl,.inr (.inr ⟨h,h2⟩)⟩
 | wibad h h2 h3 h4=>exact .inr ⟨_,_,_,_,rfl,.inr (.inr ⟨h,h2⟩)⟩
theorem less (last:Int):∀ f:Nat,(∀ lv ts d r,Val last f lv ts (.ok d r)→r.length<ts.length)∧(∀ lv l ts d r,Wi last f lv l ts (.ok d r)→r.length<ts.length) ∧
  (∀ lv acc ts d r,Sq last f lv acc ts (.ok d r)→r.length≤ts.length∧(kindOf ts=3→r.length<ts.length))∧(∀ lv ks ds ts d r,Ky last f lv ks ds ts (.ok d r)→r.length≤ts.length∧(kindOf ts=4→r.length<ts.length))
 | 0=>⟨fun _ _ _ _ h=>(by cases h),fun _ _ _ _ _ h=>(by cases h),fun _ _ _ _ _ h=>(by cases h),fun _ _ _ _ _ _ h=>(by cases h)⟩
 | f+1=>by
  obtain ⟨hv,hw,hs,hk⟩:=less last f
  refine ⟨fun lv ts d r h=>?_,fun lv l ts d r h=>?_,fun lv acc ts d r h=>?_,fun lv ks ds ts d r h=>?_⟩
  ·cases h with
   | word h=>simp
   | noseq h=>simp
   | nomap h=>simp
   | seq h h2=>exact (hs _ _ _ _ _ h2).2 rfl
   | keys h h2=>exact (hk _ _ _ _ _ _ h2).2 rfl
  ·cases h with
   | ok h=>have:=hv _ _ _ _ h;simp at this ⊢;omega
  ·cases h with
   | done h=>exact ⟨Nat.le_refl _,fun e=>absurd e h⟩
   | next h h2=>have h3:=hw _ _ _ _ _ h;have h4:=(hs _ _ _ _ _ h2).1;simp;omega
  ·cases h with
   | done h=>exact ⟨Nat.le_refl _,fun e=>absurd e h⟩
   | inl h h2 h3 h4 h5=>have h6:=hv _ _ _ _ h4;have h7:=(hk _ _ _ _ _ _ h5).1;simp;omega
   | wi h h2 h3 h4 h5=>have h6:=hw _ _ _ _ _ h4;have h7:=(hk _ _ _ _ _ _ h5).1;simp;omega
theorem keys_short (last:Int):∀ (f lv:Nat) (ks ks':List (List UInt8)) (ds ds':List T) (ts r:List Tk),Ky last f lv ks ds ts (.ok (ks',ds') r)→(∀ x∈ks,x.length≤64)→∀ x∈ks',x.length≤64
 | 0,lv,ks,ks',ds,ds',ts,r,h,hk=>by cases h
 | f+1,lv,ks,ks',ds,ds',ts,r,h,hk=>by
  have hm:∀ x:List UInt8,x.length≤64→∀ y∈ks ++ [x],y.length≤64:=fun x hx y hy=>by
   rcases List.mem_append.1 hy with hy | hy
   ·exact hk y hy
   ·rw [List.mem_singleton.1 hy];exact hx
  cases h with
  | done h=>exact hk
  | inl h h2 h3 h4 h5=>exact keys_short last f lv _ ks' _ ds' _ r h5 (hm _ h)
  | wi h h2 h3 h4 h5=>exact keys_short last f lv _ ks' _ ds' _ r h5 (hm _ h)
mutual
def T.same:T→T→Bool
 | .mk k t ks ds _,.mk k' t' ks' ds' _=>k == k' && (t == t' && (ks == ks' && sameL ds ds'))
def sameL:List T→List T→Bool
 | [],[]=>true
 | d :: ds,e :: es=>d.same e && sameL ds es
 | [],_ :: _=>false
 | _ :: _,[]=>false
end
theorem sameL_len:∀ {ds es:List T},sameL ds es=true→ds.length=es.length
 | [],[],_=>rfl
 | d :: ds,e :: es,h=>by
  simp only [sameL,Bool.and_eq_true] at h
  simp [sameL_len h.2]
 | [],_ :: _,h=>by simp [sameL] at h
 | _ :: _,[],h=>by simp [sameL] at h
mutual
theorem T.same_refl:∀ d:T,d.same d=true
 | .mk k t ks ds l=>by simp [T.same,Jg ds]
theorem Jg:∀ ds:List T,sameL ds ds=true
 | []=>rfl
 | d :: ds=>by simp [sameL,T.same_refl d,Jg ds]
end
def T.kind:T→Nat | .mk k _ _ _ _=>k
def T.text:T→List UInt8 | .mk _ t _ _ _=>t
def T.keys:T→List (List UInt8) | .mk _ _ ks _ _=>ks
def T.kids:T→List T | .mk _ _ _ ds _=>ds
def T.line:T→Int | .mk _ _ _ _ l=>l
end P20
end Go.Proofs.YtnjokdbblmlhhaaGreatDoor
namespace Go.Proofs.YtnjokdbblmlhhaaGreatDoor
set_option linter.unusedVariables false
set_option linter.unusedSimpArgs false
namespace P20
mutual
def T.size:Nat→T→Nat × Nat
 | lv,.mk k t ks ds l=>if lv=0 then (0,0) else ((sizeL (lv - 1) ds).1+1,(sizeL (lv - 1) ds).2+1)
def sizeL:Nat→List T→Nat × Nat
 | lv,[]=>(0,0)
 | lv,d :: ds=>(max (d.size lv).1 (sizeL lv ds).1,(d.size lv).2+(sizeL lv ds).2)
end
mutual
def T.pre (most:Nat):Nat→T→List (Nat × T)
 | lv,.mk k t ks ds l=>if most<lv then [] else (lv,.mk k t ks ds l) :: preL most (lv+1) ds
def preL (most:Nat):Nat→List T→List (Nat × T)
 | lv,[]=>[]
 | lv,d :: ds=>d.pre most lv ++ preL most lv ds
end
theorem Ha (l:List Nat):∀ a:Nat,l.foldl max a=max a (l.foldl max 0):=by
 induction l with
 | nil=>intro a;simp
 | cons x l ih=>intro a;simp only [List.foldl_cons];rw [ih (max a x),ih (max 0 x)];omega
mutual
theorem T.pre_size (most:Nat):∀ (d:T) (lv:Nat),lv≤most+1→(d.pre most lv).length=(d.size (most+1 - lv)).2∧((d.pre most lv).map (·.1)).foldl max 0=(if lv≤most then (d.size (most+1 - lv)).1+lv - 1 else 0)
 | .mk k t ks ds l,lv,h=>by
  have ih:=J8 most ds (lv+1)
  unfold T.pre T.size
  by_cases hm:most<lv
  ·rw [if_pos hm,if_pos (by omega),if_neg (by omega)];simp
  ·rw [if_neg hm,if_neg (by omega),if_pos (by omega)]
   obtain ⟨h1,h2⟩:=ih (by omega)
   have e:most+1 - lv - 1=most+1 - (lv+1):=by omega
   rw [e]
   refine ⟨by simp [h1],?_⟩
   simp only [List.map_cons,List.foldl_cons]
   rw [Ha,h2]
   split<;>omega
theorem J8 (most:Nat):∀ (ds:List T) (lv:Nat),lv≤most+1→(preL most lv ds).length=(sizeL (most+1 - lv) ds).2∧((preL most lv ds).map (·.1)).foldl max 0=(if (sizeL (most+1 - lv) ds).1=0 then 0 else (sizeL (most+1 - lv) ds).1+lv - 1)
 | [],lv,h=>by simp [preL,sizeL]
 | d :: ds,lv,h=>by
  obtain ⟨h1,h2⟩:=T.pre_size most d lv h
  obtain ⟨h3,h4⟩:=J8 most ds lv h
  unfold preL sizeL
  refine ⟨by simp [h1,h3],?_⟩
  rw [List.map_append,List.foldl_append,Ha,h2,h4]
  have hz:¬ lv≤most→(d.size (most+1 - lv)).1=0∧(sizeL (most+1 - lv) ds).1=0:=by
   intro hn
   have e:most+1 - lv=0:=by omega
   rw [e]
   refine ⟨by cases d;simp [T.size],?_⟩
   clear h1 h2 h3 h4
   induction ds with
   | nil=>rfl
   | cons a b ih=>unfold sizeL;simp only;rw [ih];cases a;simp [T.size]
  have hp:lv≤most→0<(d.size (most+1 - lv)).1:=by
   intro hp
   cases d
   unfold T.size
   rw [if_neg (by omega)]
   exact Nat.succ_pos _
  by_cases hm:lv≤most
  ·have:=hp hm
   simp only [hm,if_true]
   split<;>split<;>omega
  ·obtain ⟨z1,z2⟩:=hz hm
   simp [hm,z1,z2]
end
theorem depth_size (d:T):((d.pre 18 1).map (·.1)).foldl max 0=(d.size 18).1:=by
 have:=(T.pre_size 18 d 1 (by omega)).2
 simpa using this
def keysE:List (List UInt8)→List (List UInt8)→Int
 | _,[]=>0
 | seen,k :: ks=>if P03.check k 64≠0 then P03.check k 64 else if k∈seen then 6 else keysE (seen ++ [k]) ks
def oddB (k:Nat) (t:List UInt8) (nk nd:Nat):Bool:=
 if k=1 then decide (0<nk+nd) else if k=2 then (!t.isEmpty) || decide (0<nk) else (!t.isEmpty) || decide (nk≠nd)
def nodeE (lv:Nat):T→Int
 | .mk k t ks ds _=>if 16<lv then 11 else if k<1∨3<k then 7 else if oddB k t ks.length ds.length=true then 3 else if P03.check t 4096≠0 then P03.check t 4096 else keysE [] ks
def firstE:List (Nat × T)→Int
 | []=>0
 | x :: r=>if nodeE x.1 x.2≠0 then nodeE x.1 x.2 else firstE r
theorem firstE_append (a b:List (Nat × T)):firstE (a ++ b)=if firstE a≠0 then firstE a else firstE b:=by
 induction a with
 | nil=>simp [firstE]
 | cons x r ih=>
  simp only [List.cons_append,firstE,ih]
  by_cases h:nodeE x.1 x.2=0
  ·simp [h]
  ·simp [h]
mutual
def T.check:Nat→T→Int
 | lv,.mk k t ks ds l=>if nodeE lv (.mk k t ks ds l)≠0 then nodeE lv (.mk k t ks ds l) else checkL (lv+1) ds
def checkL:Nat→List T→Int
 | lv,[]=>0
 | lv,d :: ds=>if d.check lv≠0 then d.check lv else checkL lv ds
end
mutual
theorem T.check_pre:∀ (d:T) (lv:Nat),lv≤17→firstE (d.pre 17 lv)=d.check lv
 | .mk k t ks ds l,lv,h=>by
  unfold T.pre T.check
  rw [if_neg (by omega)]
  simp only [firstE]
  by_cases hl:lv=17
  ·have h11:nodeE lv (.mk k t ks ds l)=11:=by simp only [nodeE];rw [if_pos (by omega)]
   rw [h11];rfl
  ·rw [Jk ds (lv+1) (by omega)]
theorem Jk:∀ (ds:List T) (lv:Nat),lv≤17→firstE (preL 17 lv ds)=checkL lv ds
 | [],lv,h=>rfl
 | d :: ds,lv,h=>by
  unfold preL checkL
  rw [firstE_append,T.check_pre d lv h,Jk ds lv h]
end
end P20
end Go.Proofs.YtnjokdbblmlhhaaGreatDoor
