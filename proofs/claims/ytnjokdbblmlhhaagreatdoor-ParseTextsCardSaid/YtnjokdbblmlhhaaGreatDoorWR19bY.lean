/- Lemmas of this claim. -/
import Derived.Test.YtnjokdbblmlhhaaGreatDoorWR18dY
import Derived.Deep.CutBlock
set_option linter.unusedVariables false
set_option linter.unusedSimpArgs false
namespace Go.Proofs.YtnjokdbblmlhhaaGreatDoor
set_option maxRecDepth 100000
open Go.RowKit
theorem Zc:∀(f:Nat) (n col:Int) (s:List UInt8),(P19.line f n col s).1.length≤s.length+2
 |0,n,col,s=>by simp[P19.line]
 |f+1,n,col,s=>by
  unfold P19.line;by_cases hs:P19.signB 45 s=true
  ·have h1:=Zc f n (col+(1+P19.skip (s.drop 1):Nat)) (s.drop (1+P19.skip (s.drop 1)));have h2:=P19.dash_shorter s hs;rw[if_pos hs];split
   ·simp
   ·split
    ·simp
    ·rw[qE];omega
  ·rw[if_neg hs]
   repeat' split
   all_goals simp
theorem Qa3(l:List UInt8):(P18.cut l).1≤l.length:=by
 unfold P18.cut;split
 ·split
  ·rename_i n h
   have:=P18.cutQ_bd l 0 false n h;simpa using this.2
  ·simp
 ·split
  ·simp
  ·exact P18.plainLen_le l false
theorem Qay(c:UInt8)(s:ByteArray)(k:Nat)(h:k<s.size) :
  (((s[k].toNat:Int)==(c.toNat:Int))=false∧P19.signB c (s.data.toList.drop k)=false) ∨
  (((s[k].toNat:Int)==(c.toNat:Int))=true∧(s.size:Int)≤(k:Int)+1∧P19.signB c (s.data.toList.drop k)=true) ∨
  (∃h1:k+1<s.size,((s[k].toNat:Int)==(c.toNat:Int))=true∧(k:Int)+1<(s.size:Int)∧((s[k+1].toNat:Int)==32)=true∧P19.signB c (s.data.toList.drop k)=true) ∨
  (∃h1:k+1<s.size,((s[k].toNat:Int)==(c.toNat:Int))=true∧(k:Int)+1<(s.size:Int)∧((s[k+1].toNat:Int)==32)=false∧P19.signB c (s.data.toList.drop k)=false):=by
 have key:∀a:UInt8,((a.toNat:Int)==(c.toNat:Int))=(a==c):=by
  intro a;by_cases h:a=c
  ·rw[h];simp
  ·have h2:a.toNat≠c.toNat:=fun e=>h (UInt8.toNat_inj.1 e);have h3:(a==c)=false:=by simpa using h
   rw[h3];simp;omega
 have hd:=Wj s k h;by_cases h0:s[k]=c
 ·right
  have hj:((s[k].toNat:Int)==(c.toNat:Int))=true:=by rw[key,h0];simp
  rcases Nat.lt_or_ge (k+1) s.size with h1|h1
  ·right
   have D:=Wj s (k+1) h1
   have G:P19.signB c (s.data.toList.drop k)=(s[k+1]==32):=by
    rw[hd,D,h0];simp[P19.signB]
   by_cases h2:s[k+1]=32
   ·left
    exact⟨h1,hj,by omega,by rw[i32,h2];rfl,by rw[G,h2];rfl⟩
   ·right
    have h3:(s[k+1]==32)=false:=by simpa using h2
    exact⟨h1,hj,by omega,by rw[i32,h3],by rw[G,h3]⟩
  ·left
   have D:s.data.toList.drop (k+1)=[]:=List.drop_eq_nil_of_le (by rw[←zP];omega);exact⟨hj,by omega,by rw[hd,D,h0];simp[P19.signB]⟩
 ·left
  have hj:((s[k].toNat:Int)==(c.toNat:Int))=false:=by rw[key];simpa using h0
  have h3:(s[k]==c)=false:=by simpa using h0
  exact⟨hj,by rw[hd];simp[P19.signB,h3]⟩
theorem Qax(f:Nat)(n col:Int)(s:List UInt8)(h:(P19.line (f+1) n col s).2=0):(P19.line (f+1) n col s).1≠[]:=by
 unfold P19.line at h ⊢
 repeat' split at h
 all_goals first|(simp at h;done)|skip
 all_goals (repeat' split)
 all_goals first|(simp;done)|(simp_all;done)|skip
theorem Z3(c:UInt8)(s:ByteArray) :
  (((s.size:Int)≤0)∧P19.signB c s.data.toList=false) ∨
  (∃h:0<s.size,((s[0].toNat:Int)==(c.toNat:Int))=false∧P19.signB c s.data.toList=false) ∨
  (∃h:0<s.size,(0:Int)<(s.size:Int)∧((s[0].toNat:Int)==(c.toNat:Int))=true∧((s.size:Int)==1)=true∧P19.signB c s.data.toList=true) ∨
  (∃h:1<s.size,(1:Int)<(s.size:Int)∧((s[0].toNat:Int)==(c.toNat:Int))=true∧((s.size:Int)==1)=false∧((s[1].toNat:Int)==32)=true∧P19.signB c s.data.toList=true) ∨
  (∃h:1<s.size,(1:Int)<(s.size:Int)∧((s[0].toNat:Int)==(c.toNat:Int))=true∧((s.size:Int)==1)=false∧((s[1].toNat:Int)==32)=false∧P19.signB c s.data.toList=false):=by
 have key:∀a:UInt8,((a.toNat:Int)==(c.toNat:Int))=(a==c):=by
  intro a;by_cases h:a=c
  ·rw[h];simp
  ·have h2:a.toNat≠c.toNat:=fun e=>h (UInt8.toNat_inj.1 e);have h3:(a==c)=false:=by simpa using h
   rw[h3];simp;omega
 rcases Nat.eq_zero_or_pos s.size with h|h
 ·left
  have hn:s.data.toList=[]:=qU (by rw[←zP];exact h);exact⟨by omega,by rw[hn];rfl⟩
 right
 have hd:=Wj s 0 h;rw[List.drop_zero]at hd;by_cases h0:s[0]=c
 ·right
  have hj:((s[0].toNat:Int)==(c.toNat:Int))=true:=by rw[key,h0];simp
  rcases Nat.lt_or_ge 1 s.size with h1|h1
  ·right
   have D:=Wj s 1 h1
   have G:P19.signB c s.data.toList=(s[1]==32):=by
    rw[hd,D,h0];simp[P19.signB]
   by_cases h2:s[1]=32
   ·left
    exact⟨h1,by omega,hj,by simp;omega,by rw[i32,h2];rfl,by rw[G,h2];rfl⟩
   ·right
    have h3:(s[1]==32)=false:=by simpa using h2
    exact⟨h1,by omega,hj,by simp;omega,by rw[i32,h3],by rw[G,h3]⟩
  ·left
   have D:s.data.toList.drop 1=[]:=List.drop_eq_nil_of_le (by rw[←zP];omega);exact⟨h,by omega,hj,by simp;omega,by rw[hd,D,h0];simp[P19.signB]⟩
 ·left
  have hj:((s[0].toNat:Int)==(c.toNat:Int))=false:=by rw[key];simpa using h0
  have h3:(s[0]==c)=false:=by simpa using h0
  exact⟨h,hj,by rw[hd];simp[P19.signB,h3]⟩
theorem Wu(s:ByteArray)(k:Nat):(s.extract k s.size).data.toList=s.data.toList.drop k:=by
 rw[Lib.extract_data,List.take_of_length_le (by rw[qQ,←zP];exact qJ _)]
theorem We(s:ByteArray)(k:Nat):(s.extract k s.size).size=s.size-k:=by
 rw[ByteArray.size_extract,Nat.min_eq_left (qJ _)]
theorem Xd(s:ByteArray)(k q:Nat)(w:World)(h:s.size≤4000000)(hq:P19.skip (s.data.toList.drop k)=q) :
  Calls Tryz.prog 114 #[.string (s.extract k s.size)] w fun e w'=>e=.returned (.int .i64 q)∧w'=w:=by
 refine(Zk _ w (by rw[We];omega)).mono ?_;rintro e w' ⟨rfl,rfl⟩;rw[Wu,hq];exact⟨rfl,rfl⟩
theorem Qas(s:ByteArray)(j:Nat)(n col:Int)(V:Tk × Int)(w:World)(h:s.size≤100000)(hv:P19.value n col (s.data.toList.drop j)=V) :
  Calls Tryz.prog 115 #[.string (s.extract j s.size),.int .i64 n,.int .i64 col] w fun e w'=>e=.returned (.tuple #[.agg #[.int .u8 V.1.1,.string ⟨V.1.2.1.toArray⟩,.int .i64 V.1.2.2.1,.int .i64 V.1.2.2.2],.int .i64 V.2])∧Below w.heap.size w w':=by
 have h1:=Yx (s.extract j s.size) n col w (by rw[We];omega);rw[Wu,hv]at h1;exact h1
theorem Qad(s:ByteArray)(k:Nat)(x:List UInt8 × Int)(w:World)(h:s.size≤100000)(hk:k≤s.size)(hx:P18.read (s.data.toList.take k)=x) :
  Calls Tryz.prog 117 #[.string (s.extract 0 k)] w fun e w'=>e=.returned (.tuple #[.string ⟨x.1.toArray⟩,.int .i64 x.2])∧Below w.heap.size w w':=by
 have hd:(s.extract 0 k).data.toList=s.data.toList.take k:=by rw[Lib.extract_data,List.drop_zero,Nat.sub_zero]
 have h1:=Xz (s.extract 0 k) w (by rw[ByteArray.size_extract];omega);rw[hd,hx]at h1;refine h1.mono ?_;rintro e w' ⟨b,rfl,hb,D⟩;obtain rfl:=K5 hb;exact⟨rfl,D⟩
theorem Yi{W:World}{g:Nat}{T:TypeId}{a b c d:Value}(h:W.heap[g]?=some (.cells #[a,b,c,d] T))(v0 D G:Value) :
  ((W.setCell ⟨g,0,none⟩ v0).cell? ⟨g,1,none⟩=some b∧(W.setCell ⟨g,0,none⟩ v0).frozen? ⟨g,1,none⟩=false) ∧
  (((W.setCell ⟨g,0,none⟩ v0).setCell ⟨g,1,none⟩ D).cell? ⟨g,2,none⟩=some c∧((W.setCell ⟨g,0,none⟩ v0).setCell ⟨g,1,none⟩ D).frozen? ⟨g,2,none⟩=false) ∧
  ((((W.setCell ⟨g,0,none⟩ v0).setCell ⟨g,1,none⟩ D).setCell ⟨g,2,none⟩ G).cell? ⟨g,3,none⟩=some d∧(((W.setCell ⟨g,0,none⟩ v0).setCell ⟨g,1,none⟩ D).setCell ⟨g,2,none⟩ G).frozen? ⟨g,3,none⟩=false):=by
 simp[World.cell?,World.frozen?,World.setCell,Array.getElem?_modify,h]
def Qbd(W:World)(b:Nat)(v0 G D v3:Value):World:=(((W.setCell ⟨b,0,none⟩ v0).setCell ⟨b,1,none⟩ G).setCell ⟨b,2,none⟩ D).setCell ⟨b,3,none⟩ v3
theorem Qaq{W:World}{B g b m c:Nat}{ts:List Tk}(h:Fc W B (.slice (some ⟨g,0,none⟩) m c) ts)(I:g≠b)(v0 D G v3:Value):Fc (Qbd W b v0 D G v3) B (.slice (some ⟨g,0,none⟩) m c) ts:=by
 have hne:(Value.slice (some ⟨g,0,none⟩) m c).ownBlock≠some b:=by simpa[Value.ownBlock]using I
 have h1:=World.ownsRow.kept h (Ap W b 0 v0) (.inr hne);have h2:=World.ownsRow.kept h1 (Ap _ b 1 D) (.inr hne);have h3:=World.ownsRow.kept h2 (Ap _ b 2 G) (.inr hne);exact World.ownsRow.kept h3 (Ap _ b 3 v3) (.inr hne)
set_option maxHeartbeats 20000000 in
theorem Yv(f:Nat)(ih:∀(s:ByteArray) (n col:Int) (w:World),s.size<f→s.size≤100000→0≤col→col+s.size≤1000000000 →
    Calls Tryz.prog 71 #[.agg #[.int .i64 n,.int .i64 col,.string s]] w fun e w'=>∃v,e=.returned (.tuple #[v,.int .i64 (P19.line f n col s.data.toList).2])∧Fc w' w.heap.size v (P19.line f n col s.data.toList).1∧Below w.heap.size w w')
    (s:ByteArray) (n col:Int) (w:World) (hf:s.size<f+1) (hs:s.size≤100000) (cS:0≤col) (dB:col+s.size≤1000000000) :
    Calls Tryz.prog 71 #[.agg #[.int .i64 n,.int .i64 col,.string s]] w fun e w'=>∃v,e=.returned (.tuple #[v,.int .i64 (P19.line (f+1) n col s.data.toList).2])∧Fc w' w.heap.size v (P19.line (f+1) n col s.data.toList).1∧Below w.heap.size w w':=by
  have dA:Tryz.prog.follows .mixedOrders=true:=by kernel_rfl
  have IH:=Ab ih;clear ih;obtain⟨⟨TS,E⟩,hR⟩:∃x,P19.line (f+1) n col s.data.toList=x:=⟨_,rfl⟩;rw[hR];have HR:=Ab hR;clear hR;go_enter Tryz.func71,Tryz.ntmps71
  go_wp2;go_region
  obtain⟨W1,aS⟩:∃W1,(w.alloc (.cells #[.int .i64 n,.int .i64 col,.string s] 122)).drew=W1:=⟨_,rfl⟩;have I:Below w.heap.size w W1:=by rw[←aS];exact((qV _ w).alloc (qJ _) _).drew
  have hx:W1.heap[w.heap.size]?=some (.cells #[.int .i64 n,.int .i64 col,.string s] 122):=by rw[←aS];exact qB w _
  rw[aS];obtain⟨x0,x1,x2⟩:=Wd hx;have aR:w.heap.size<W1.heap.size:=(qA.1 hx).1;clear aS;go_upto_region 2 with fail
  go_cut [39] from 22 to 39 (fun c wx=>c=.bool (P19.signB 45 s.data.toList)∧W1=wx)
  case first=>
    rcases Z3 45 s with⟨h1,h2⟩|⟨h1,h2,h3⟩|⟨h1,h2,h3,h4,h5⟩|⟨h1,h2,h3,h4,h5,h6⟩|⟨h1,h2,h3,h4,h5,h6⟩
    · have HS:=Ab h2
      clear h2;go_wp2
      go_meet
      exact⟨by rw[Aa HS],rfl⟩
    · have h0:(0:Int)<(s.size:Int):=by omega
      have dE:((s[0].toNat:Int)==45)=false:=h2;have HS:=Ab h3;clear h3 h2;go_wp2
      go_meet
      exact⟨by rw[Aa HS],rfl⟩
    · have bX:((s[0].toNat:Int)==45)=true:=h3
      have HS:=Ab h5;clear h5 h3;go_wp2
      go_meet
      exact⟨by rw[Aa HS],rfl⟩
    · have h0:(0:Int)<(s.size:Int):=by omega
      have bX:((s[0].toNat:Int)==45)=true:=h3;have HS:=Ab h6;clear h6 h3;go_wp2
      go_meet
      exact⟨by rw[Aa HS],rfl⟩
    · have h0:(0:Int)<(s.size:Int):=by omega
      have bX:((s[0].toNat:Int)==45)=true:=h3;have HS:=Ab h6;clear h6 h3;go_wp2
      go_meet
      exact⟨by rw[Aa HS],rfl⟩
  case rest=>
    obtain⟨rfl,rfl⟩:=hcut;by_cases aC:P19.signB 45 s.data.toList=true
    · rw[aC]
      obtain⟨q,hq⟩:∃q,P19.skip (s.data.toList.drop 1)=q:=⟨_,rfl⟩
      have cT:1≤s.size:=by
        rcases Nat.eq_zero_or_pos s.size with h|h
        · have hn:s.data.toList=[]:=qU (by rw[←zP];exact h)
          rw[hn]at aC;cases aC
        · exact h
      have cD:q≤s.size-1:=by
        have h1:=P19.skip_le (s.data.toList.drop 1);rw[hq,qQ,←zP]at h1;exact h1
      have cK:(1:Int)≤(s.size:Int):=by omega
      have dD:IntKind.i64.wrap (1+(q:Int))=1+(q:Int):=qG _ (by omega);have hr:=Aa HR;rw[P19.line,if_pos aC,hq,←zP]at hr;clear aC;have HQ:=Ab hq;clear hq;by_cases hk:1+q=s.size
      · rw[if_pos hk]at hr
        obtain⟨rfl,rfl⟩:TS=[(3,[],n,col)]∧E=0:=by
          injection hr with h1 h2;exact⟨h1.symm,h2.symm⟩
        have jk:((1+(q:Int))==(s.size:Int))=true:=by simp;omega
        clear hr hk
        go_wp2_with (first
          |(go_at_call 72;refine(Oq _ _ _ _ _).mono ?_;rintro e w2 ⟨rfl,G⟩)
          | (go_at_call 114;refine(Xd s 1 q _ (by omega) (Aa HQ)).mono ?_;rintro e w3 ⟨rfl,rfl⟩))
        go_ret2
        refine⟨_,rfl,X2 w2 w.heap.size (3,[],n,col) ?_ _ rfl,?_⟩
        · have h1:=I.size
          have h2:=G.size;omega
        · exact(I.trans (G.mono I.size)).alloc (qK I.size G.size) _
      · rw[if_neg hk]at hr
        have jk:((1+(q:Int))==(s.size:Int))=false:=by simp;omega
        have cV:1+q<s.size:=by omega
        go_wp2_with (first
          |(go_at_call 72;refine(Oq _ _ _ _ _).mono ?_;rintro e w2 ⟨rfl,G⟩)
          | (go_at_call 114;refine(Xd s 1 q _ (by omega) (Aa HQ)).mono ?_;rintro e w3 ⟨rfl,rfl⟩))
        obtain⟨W3,aJ⟩:∃W3,w2.alloc (.cells #[.int .u8 3,.string ⟨#[]⟩,.int .i64 n,.int .i64 col] 124)=W3:=⟨_,rfl⟩;have Y:Below w.heap.size w W3:=by rw[←aJ];exact(I.trans (G.mono I.size)).alloc (qK I.size G.size) _
        have cE:Fc W3 w.heap.size (.slice (some ⟨w2.heap.size,0,none⟩) 1 1) [(3,[],n,col)]:=by rw[←aJ];exact X2 w2 w.heap.size (3,[],n,col) (qK I.size G.size) _ rfl
        have cX:w2.heap.size<W3.heap.size:=by rw[←aJ];simp
        have cF:W3.heap[w.heap.size]?=some (.cells #[.int .i64 n,.int .i64 col,.string s] 122):=by
          rw[←aJ];exact(qD w2 _ _ (by have:=G.size;omega)).trans ((G.block _ aR).trans hx)
        rw[aJ];clear aJ;have z0:=(Wd cF).1;have cQ:IntKind.i64.wrap (col+(1+(q:Int)))=col+(1+(q:Int)):=qG _ (by omega);have aT:=fun W=>Aa IH (s.extract (1+q) s.size) n (col+(1+(q:Int))) W (by rw[We];omega) (by rw[We];omega) (by omega) (by rw[We];omega);rw[Wu]at aT;rw[show ((1+q:Nat):Int)=1+(q:Int) from by omega]at hr;obtain⟨⟨T4,E4⟩,bA⟩:∃x,P19.line f n (col+(1+(q:Int))) (s.data.toList.drop (1+q))=x:=⟨_,rfl⟩;rw[bA]at hr aT
        have aL:E4=0→T4≠[]:=by
          intro h0;cases f with
          |zero=>omega
          |succ f'=>
            have h1:=Qax f' n (col+(1+(q:Int))) (s.data.toList.drop (1+q));rw[bA]at h1;exact h1 h0
        have cZ:T4.length≤1000000:=by
          have h1:=Zc f n (col+(1+(q:Int))) (s.data.toList.drop (1+q));rw[bA,qQ,←zP]at h1;simp only at h1;omega
        have bR:=Ab aT;clear aT bA;by_cases hE:E4=0
        · rw[if_neg (by simpa using hE)]at hr
          obtain⟨rfl,rfl⟩:TS=(3,[],n,col)::T4∧E=0:=by
            injection hr with h1 h2;exact⟨h1.symm,h2.symm⟩
          have hT:=aL hE;have jE:(E4 != 0)=false:=by simpa using hE
          clear hr aL hE hk
          go_region_with_o (first
            | (go_at_call 71;refine(Aa bR _).mono ?_;rintro e w4 ⟨v4,rfl,bH,aZ⟩;obtain⟨g4,bY,rfl,cM,cJ⟩:=World.ownsRow.form bH (zM.2 hT);have bD:Fc w4 w.heap.size (.slice (some ⟨w2.heap.size,0,none⟩) 1 1) [(3,[],n,col)]:=Ir (World.ownsRow.drew cE) aZ;have aD:Below w.heap.size w w4:=(Y.drew).trans (aZ.mono Y.size)))
          all_goals
            go_wp2_with (at_builtin;refine Wp rfl (.tmp 70) (.tmp 71) rfl rfl bD g4 bY _ rfl rfl (World.ownsRow.cells bH rfl) (by simp;omega) aD.size ?_;intro v5 w5 aQ cG)
            go_ret2
            refine⟨_,rfl,aQ,?_⟩;exact aD.grown cG aD.size (fun k hk=>(World.ownsRow.lt bD k hk).1)
        · rw[if_pos (by simpa using hE)]at hr
          obtain⟨rfl,rfl⟩:TS=[]∧E=E4:=by
            injection hr with h1 h2;exact⟨h1.symm,h2.symm⟩
          have jE:(E != 0)=true:=by simpa using hE
          clear hr aL hE hk
          go_region_with_o (first
            | (go_at_call 71;refine(Aa bR _).mono ?_;rintro e w4 ⟨v4,rfl,bH,aZ⟩;have aD:Below w.heap.size w w4:=(Y.drew).trans (aZ.mono Y.size)))
          all_goals
            go_wp2
            go_ret2
            exact⟨_,rfl,World.ownsRow_nil _ _ _ _,aD⟩
    · have bE:P19.signB 45 s.data.toList=false:=by simpa using aC
      rw[bE];have hr:=Aa HR;rw[P19.line,if_neg aC]at hr;clear aC bE;by_cases h1:s.data.toList=[91,93]
      · rw[if_pos h1]at hr
        obtain⟨rfl,rfl⟩:TS=[(6,[],n,col)]∧E=0:=by
          injection hr with h1 h2;exact⟨h1.symm,h2.symm⟩
        obtain rfl:=K5 h1;clear hr h1;go_wp2_with (go_at_call 115;refine(Sx _ 6 _ _ _ (.inl ⟨rfl,rfl⟩)).mono ?_;rintro e w2 ⟨rfl,G⟩;obtain⟨⟨c0,_⟩,⟨c1,_⟩,⟨c2,_⟩,⟨c3,_⟩⟩:=A1 (qB w2 (.cells #[.int .u8 6,.string ⟨#[]⟩,.int .i64 n,.int .i64 col] 124)))
        have D:=I.trans (G.mono I.size)
        go_ret2
        refine⟨_,rfl,Ws _ w.heap.size _ (6,[],n,col) (qF _ _) ?_ _ rfl,(D.alloc D.size _).alloc ?_ _⟩
        · rw[qF];have:=D.size;omega
        · rw[qF];have:=D.size;omega
      rw[if_neg h1]at hr;by_cases h2:s.data.toList=[123,125]
      · rw[if_pos h2]at hr
        obtain⟨rfl,rfl⟩:TS=[(7,[],n,col)]∧E=0:=by
          injection hr with h1 h2;exact⟨h1.symm,h2.symm⟩
        obtain rfl:=K5 h2;clear hr h1 h2;go_wp2_with (go_at_call 115;refine(Sx _ 7 _ _ _ (.inr ⟨rfl,rfl⟩)).mono ?_;rintro e w2 ⟨rfl,G⟩;obtain⟨⟨c0,_⟩,⟨c1,_⟩,⟨c2,_⟩,⟨c3,_⟩⟩:=A1 (qB w2 (.cells #[.int .u8 7,.string ⟨#[]⟩,.int .i64 n,.int .i64 col] 124)))
        have D:=I.trans (G.mono I.size)
        go_ret2
        refine⟨_,rfl,Ws _ w.heap.size _ (7,[],n,col) (qF _ _) ?_ _ rfl,(D.alloc D.size _).alloc ?_ _⟩
        · rw[qF];have:=D.size;omega
        · rw[qF];have:=D.size;omega
      rw[if_neg h2]at hr;have n1:=Pp h1;have n2:=Pp h2;have n3:=Sh h1;have n4:=Sh h2;clear h1 h2;have hcut:=Ww s;have aH:=Qa3 s.data.toList;obtain⟨⟨k,c⟩,bI⟩:∃x,P18.cut s.data.toList=x:=⟨_,rfl⟩;rw[bI]at hr aH;simp only[bI]at hcut;simp only at hr aH;rw[←zP]at aH;have bB:=Ab hcut;clear hcut bI;by_cases hc:c=0
      rotate_left
      · rw[if_pos hc]at hr
        obtain⟨rfl,rfl⟩:TS=[]∧E=3:=by
          injection hr with h1 h2;exact⟨h1.symm,h2.symm⟩
        have jc:((c:Int) != 0)=true:=by simp;omega
        clear hr hc;go_wp2_with (go_at_call 116;refine(Aa bB _ (by omega)).mono ?_;rintro e w' ⟨rfl,rfl⟩)
        go_ret2
        exact⟨_,rfl,World.ownsRow_nil _ _ _ _,I⟩
      rw[if_neg (by simpa using hc)]at hr;have jc:((c:Int) != 0)=false:=by simp;omega
      clear hc;have cA:=Ab hr;clear hr;go_upto_region 17 with(go_at_call 116;refine(Aa bB _ (by omega)).mono ?_;rintro e w' ⟨rfl,aN⟩;rw[aN];clear aN)
      go_cut [119] from 96 to 119 (fun c wx=>c=.bool (decide (k<s.size∧P19.signB 58 (s.data.toList.drop k)=false))∧W1=wx)
      case first=>
        rcases Nat.lt_or_ge k s.size with bL|cY
        · have j1:(k:Int)<(s.size:Int):=by omega
          have jw:IntKind.i64.wrap ((k:Int)+1)=(k:Int)+1:=qG _ (by omega);rcases Qay 58 s k bL with⟨h3,h4⟩|⟨h3,h4,h5⟩|⟨h3,h4,h5,h6,h7⟩|⟨h3,h4,h5,h6,h7⟩
          · have j3:((s[k].toNat:Int) != 58)=true:=by simpa using h3
            have HS:=Ab h4;clear h3 h4;go_wp2
            go_meet
            exact⟨by rw[Aa HS,decide_eq_true ⟨bL,rfl⟩],rfl⟩
          · have j3:((s[k].toNat:Int) != 58)=false:=by simpa using h3
            have HS:=Ab h5;clear h3 h5;go_wp2
            go_meet
            exact⟨by rw[Aa HS];simp,rfl⟩
          · have j3:((s[k].toNat:Int) != 58)=false:=by simpa using h4
            have j6:((s[k+1].toNat:Int) != 32)=false:=by simpa using h6
            have HS:=Ab h7;clear h4 h6 h7;go_wp2
            go_meet
            exact⟨by rw[Aa HS];simp,rfl⟩
          · have j3:((s[k].toNat:Int) != 58)=false:=by simpa using h4
            have j6:((s[k+1].toNat:Int) != 32)=true:=by simpa using h6
            have HS:=Ab h7;clear h4 h6 h7;go_wp2
            go_meet
            exact⟨by rw[Aa HS,decide_eq_true ⟨bL,rfl⟩],rfl⟩
        · have j1:(s.size:Int)≤(k:Int):=by omega
          go_wp2
          go_meet
          exact⟨by rw[decide_eq_false (by omega)],rfl⟩
      case rest=>
        obtain⟨rfl,rfl⟩:=hcut;have hr:=Aa cA;by_cases hbad:k<s.size∧P19.signB 58 (s.data.toList.drop k)=false
        · rw[if_pos (by rw[←zP];exact hbad)]at hr
          obtain⟨rfl,rfl⟩:TS=[]∧E=3:=by
            injection hr with h1 h2;exact⟨h1.symm,h2.symm⟩
          rw[decide_eq_true hbad];clear hr hbad;go_wp2
          go_ret2
          exact⟨_,rfl,World.ownsRow_nil _ _ _ _,I⟩
        rw[if_neg (by rw[←zP];exact hbad)]at hr;rw[decide_eq_false hbad];clear hbad;obtain⟨⟨t,e⟩,hte⟩:∃x,P18.read (s.data.toList.take k)=x:=⟨_,rfl⟩;rw[hte]at hr;have aW:=Ab (fun W=>Qad s k (t,e) W hs aH hte);have cU:(k:Int)≤(s.size:Int):=by omega
        clear hte;by_cases he:e=0
        rotate_left
        · rw[if_pos he]at hr
          obtain⟨rfl,rfl⟩:TS=[]∧E=e:=by
            injection hr with h1 h2;exact⟨h1.symm,h2.symm⟩
          have je:(E != 0)=true:=by simpa using he
          clear hr he;go_wp2_with (go_at_call 117;refine(Aa aW _).mono ?_;rintro e' w2 ⟨rfl,G⟩)
          go_ret2
          exact⟨_,rfl,World.ownsRow_nil _ _ _ _,I.trans (G.mono I.size)⟩
        rw[if_neg (by simpa using he),←zP]at hr;have je:(e != 0)=false:=by simpa using he
        clear he;by_cases aX:k=s.size
        · rw[if_pos aX]at hr
          obtain⟨rfl,rfl⟩:TS=[(5,t,n,col)]∧E=0:=by
            injection hr with h1 h2;exact⟨h1.symm,h2.symm⟩
          have cH:((k:Int)==(s.size:Int))=true:=by simp;omega
          clear hr aX
          go_wp2_with (first
            |(go_at_call 117;refine(Aa aW _).mono ?_;rintro e' w2 ⟨rfl,G⟩;have z0:=(Wd ((G.block _ aR).trans hx)).1)
            | (go_at_call 72;refine(Oq _ _ _ _ _).mono ?_;rintro e' w3 ⟨rfl,Y⟩))
          have D:=I.trans (G.mono I.size);have S:=D.trans (Y.mono D.size)
          go_ret2
          exact⟨_,rfl,Ws _ w.heap.size _ (5,t,n,col) rfl S.size _ rfl,S.alloc S.size _⟩
        rw[if_neg aX]at hr;have cH:((k:Int)==(s.size:Int))=false:=by simp;omega
        have cW:k+1≤s.size:=by omega
        have cO:(k:Int)+1≤(s.size:Int):=by omega
        have jw:IntKind.i64.wrap ((k:Int)+1)=(k:Int)+1:=qG _ (by omega);obtain⟨q,hq⟩:∃q,P19.skip (s.data.toList.drop (k+1))=q:=⟨_,rfl⟩
        have cD:k+1+q≤s.size:=by
          have h1:=P19.skip_le (s.data.toList.drop (k+1));rw[hq,qQ,←zP]at h1;omega
        rw[hq]at hr;have HQ:=Ab hq;have cR:IntKind.i64.wrap ((k:Int)+1+(q:Int))=(k:Int)+1+(q:Int):=qG _ (by omega);clear hq aX;by_cases hj:k+1+q=s.size
        · rw[if_pos hj]at hr
          obtain⟨rfl,rfl⟩:TS=[(4,t,n,col)]∧E=0:=by
            injection hr with h1 h2;exact⟨h1.symm,h2.symm⟩
          have jj:(((k:Int)+1+(q:Int))==(s.size:Int))=true:=by simp;omega
          clear hr hj
          go_wp2_with (first
            |(go_at_call 117;refine(Aa aW _).mono ?_;rintro e' w2 ⟨rfl,G⟩;have z0:=(Wd ((G.block _ aR).trans hx)).1)
            |(go_at_call 72;refine(Oq _ _ _ _ _).mono ?_;rintro e' w3 ⟨rfl,Y⟩)
            | (go_at_call 114;refine(Xd s (k+1) q _ (by omega) (Aa HQ)).mono ?_;rintro e' w4 ⟨rfl,rfl⟩))
          have D:=I.trans (G.mono I.size);have S:=D.trans (Y.mono D.size)
          go_ret2
          exact⟨_,rfl,Ws _ w.heap.size _ (4,t,n,col) rfl S.size _ rfl,S.alloc S.size _⟩
        rw[if_neg hj]at hr;have jj:(((k:Int)+1+(q:Int))==(s.size:Int))=false:=by simp;omega
        rw[show ((k+1+q:Nat):Int)=(k:Int)+1+(q:Int) from by omega]at hr;have cP:IntKind.i64.wrap (col+((k:Int)+1+(q:Int)))=col+((k:Int)+1+(q:Int)):=qG _ (by omega);obtain⟨⟨tv,ev⟩,hv⟩:∃x,P19.value n (col+((k:Int)+1+(q:Int))) (s.data.toList.drop (k+1+q))=x:=⟨_,rfl⟩;rw[hv]at hr;have HV:=Ab (fun W=>Qas s (k+1+q) n (col+((k:Int)+1+(q:Int))) (tv,ev) W hs hv);have cN:(k:Int)+1+(q:Int)≤(s.size:Int):=by omega
        clear hv hj;obtain⟨N,J,Q,R⟩:=tv;have cI:=fun W:World=>A1 (qB W (.cells #[.int .u8 N,.string ⟨J.toArray⟩,.int .i64 Q,.int .i64 R] 124))
        go_wp2_with (first
          |(go_at_call 117;refine(Aa aW _).mono ?_;rintro e' w2 ⟨rfl,G⟩;have aY:=(G.block _ aR).trans hx;have z0:=(Wd aY).1)
          |(go_at_call 72;refine(Oq _ _ _ _ _).mono ?_;rintro e' w3 ⟨rfl,Y⟩)
          | (go_at_call 114;refine(Xd s (k+1) q _ (by omega) (Aa HQ)).mono ?_;rintro e' w4 ⟨rfl,aN⟩;rw[aN];clear aN))
        have D:=I.trans (G.mono I.size);have S:=D.trans (Y.mono D.size);obtain⟨W5,aK⟩:∃W5,w3.alloc (.cells #[.int .u8 4,.string ⟨t.toArray⟩,.int .i64 n,.int .i64 col] 124)=W5:=⟨_,rfl⟩;have aA:Below w.heap.size w W5:=by rw[←aK];exact S.alloc S.size _
        have aQ:Fc W5 w.heap.size (.slice (some ⟨w3.heap.size,0,none⟩) 1 1) [(4,t,n,col)]:=by rw[←aK];exact X2 w3 w.heap.size (4,t,n,col) S.size _ rfl
        have bK:W5.heap[w.heap.size]?=some (.cells #[.int .i64 n,.int .i64 col,.string s] 122):=by
          rw[←aK];have cC:=(qA.1 aY).1;exact(qD w3 _ _ (by have:=Y.size;omega)).trans ((Y.block _ cC).trans aY)
        have bJ:w3.heap.size<W5.heap.size:=by rw[←aK];simp
        rw[aK];clear aK aY z0;have z5:=(Wd bK).1;have dC:=(Wd ((qD W5 (.cells #[.int .u8 0,.string ⟨#[]⟩,.int .i64 0,.int .i64 0] 124) _ (qA.1 bK).1).trans bK)).1;by_cases aI:ev=0
        · rw[if_neg (by simpa using aI)]at hr
          obtain⟨rfl,rfl⟩:TS=[(4,t,n,col),(N,J,Q,R)]∧E=0:=by
            injection hr with h1 h2;exact⟨h1.symm,h2.symm⟩
          have cB:(ev != 0)=false:=by simpa using aI
          clear hr aI
          go_region_with_o (first
            |(go_at_call 115;refine(Aa HV _).mono ?_;rintro e' w6 ⟨rfl,X⟩;have aB:=aA.alloc aA.size (.cells #[.int .u8 0,.string ⟨#[]⟩,.int .i64 0,.int .i64 0] 124);have U:Below w.heap.size w w6:=(aB.drew).trans (X.mono aB.size);have Z:w6.heap[W5.heap.size]?=some (.cells #[.int .u8 0,.string ⟨#[]⟩,.int .i64 0,.int .i64 0] 124):=(X.block _ (by show W5.heap.size<(W5.alloc _).heap.size;simp)).trans (qB W5 _);have aU:Fc w6 w.heap.size (.slice (some ⟨w3.heap.size,0,none⟩) 1 1) [(4,t,n,col)]:=Ir (World.ownsRow.drew (World.ownsRow.alloc aQ _)) X;obtain⟨⟨bW,bO⟩,_⟩:=A1 Z;obtain⟨⟨bT,bS⟩,⟨bZ,bQ⟩,⟨bU,bV⟩⟩:=Yi Z (.int .u8 N) (.string ⟨J.toArray⟩) (.int .i64 Q))
            | (go_at_call 115;refine(Aa HV _).mono ?_;rintro e' w6 ⟨rfl,X⟩;have U:Below w.heap.size w w6:=(aA.drew).trans (X.mono aA.size);have aU:Fc w6 w.heap.size (.slice (some ⟨w3.heap.size,0,none⟩) 1 1) [(4,t,n,col)]:=Ir (World.ownsRow.drew aQ) X;obtain⟨⟨c0,_⟩,⟨c1,_⟩,⟨c2,_⟩,⟨c3,_⟩⟩:=cI w6))
          all_goals first
            | (have bC:=Bu Z (.int .u8 N) (.string ⟨J.toArray⟩) (.int .i64 Q) (.int .i64 R)
               have cL:w3.heap.size<W5.heap.size:=bJ;have aM:=Qaq (b:=W5.heap.size) aU (by omega) (.int .u8 N) (.string ⟨J.toArray⟩) (.int .i64 Q) (.int .i64 R);have aG:=Be U aA.size (.int .u8 N) (.string ⟨J.toArray⟩) (.int .i64 Q) (.int .i64 R);unfold Qbd at aM;obtain⟨W7,bP⟩:∃W7,(((w6.setCell ⟨W5.heap.size,0,none⟩ (.int .u8 N)).setCell ⟨W5.heap.size,1,none⟩ (.string ⟨J.toArray⟩)).setCell ⟨W5.heap.size,2,none⟩ (.int .i64 Q)).setCell ⟨W5.heap.size,3,none⟩ (.int .i64 R)=W7:=⟨_,rfl⟩;rw[bP]at bC aM aG ⊢;clear bP bW bT bZ bU bO bS bQ bV Z;obtain⟨⟨d0,_⟩,⟨d1,_⟩,⟨d2,_⟩,⟨d3,_⟩⟩:=A1 bC;have bM:=Ws W7 w.heap.size W7.heap.size (N,J,Q,R) rfl aG.size #[.int .u8 N,.string ⟨J.toArray⟩,.int .i64 Q,.int .i64 R] rfl;have aO:Fc (W7.alloc (.cells #[.int .u8 N,.string ⟨J.toArray⟩,.int .i64 Q,.int .i64 R] 124)) w.heap.size (.slice (some ⟨w3.heap.size,0,none⟩) 1 1) [(4,t,n,col)]:=World.ownsRow.alloc aM _;have aE:=aG.alloc aG.size (.cells #[.int .u8 N,.string ⟨J.toArray⟩,.int .i64 Q,.int .i64 R] 124);go_wp2_with (at_builtin;refine Wp (more:=[(N,J,Q,R)]) rfl (.tmp 174) (.tmp 176) rfl rfl aO W7.heap.size 1 1 rfl rfl (World.ownsRow.cells bM rfl) (by simp) aE.size ?_;intro v9 w9 bN bF)
               go_ret2
               refine⟨_,rfl,bN,?_⟩
               exact aE.grown bF aE.size (fun k hk=>(World.ownsRow.lt aO k hk).1))
            | (skip
               have bG:Below w.heap.size w (w6.alloc (.cells #[.int .u8 N,.string ⟨J.toArray⟩,.int .i64 Q,.int .i64 R] 124)):=U.alloc U.size _;have bM:=Ws (w6.alloc (.cells #[.int .u8 N,.string ⟨J.toArray⟩,.int .i64 Q,.int .i64 R] 124)) w.heap.size (w6.heap.size+1) (N,J,Q,R) (qF _ _) bG.size #[.int .u8 N,.string ⟨J.toArray⟩,.int .i64 Q,.int .i64 R] rfl;have aO:Fc ((w6.alloc (.cells #[.int .u8 N,.string ⟨J.toArray⟩,.int .i64 Q,.int .i64 R] 124)).alloc (.cells #[.int .u8 N,.string ⟨J.toArray⟩,.int .i64 Q,.int .i64 R] 124)) w.heap.size (.slice (some ⟨w3.heap.size,0,none⟩) 1 1) [(4,t,n,col)]:=World.ownsRow.alloc (World.ownsRow.alloc aU _) _;have aE:=bG.alloc bG.size (.cells #[.int .u8 N,.string ⟨J.toArray⟩,.int .i64 Q,.int .i64 R] 124);go_wp2_with (at_builtin;refine Wp (more:=[(N,J,Q,R)]) rfl (.tmp 174) (.tmp 176) rfl rfl aO (w6.heap.size+1) 1 1 rfl rfl (World.ownsRow.cells bM rfl) (by simp) aE.size ?_;intro v9 w9 bN bF)
               go_ret2
               refine⟨_,rfl,bN,?_⟩
               exact aE.grown bF aE.size (fun k hk=>(World.ownsRow.lt aO k hk).1))
        · rw[if_pos (by simpa using aI)]at hr
          obtain⟨rfl,rfl⟩:TS=[]∧E=ev:=by
            injection hr with h1 h2;exact⟨h1.symm,h2.symm⟩
          have cB:(E != 0)=true:=by simpa using aI
          clear hr aI
          go_region_with_o (first
            |(go_at_call 115;refine(Aa HV _).mono ?_;rintro e' w6 ⟨rfl,X⟩;have aB:=aA.alloc aA.size (.cells #[.int .u8 0,.string ⟨#[]⟩,.int .i64 0,.int .i64 0] 124);have U:Below w.heap.size w w6:=(aB.drew).trans (X.mono aB.size);have Z:w6.heap[W5.heap.size]?=some (.cells #[.int .u8 0,.string ⟨#[]⟩,.int .i64 0,.int .i64 0] 124):=(X.block _ (by show W5.heap.size<(W5.alloc _).heap.size;simp)).trans (qB W5 _);have aU:Fc w6 w.heap.size (.slice (some ⟨w3.heap.size,0,none⟩) 1 1) [(4,t,n,col)]:=Ir (World.ownsRow.drew (World.ownsRow.alloc aQ _)) X;obtain⟨⟨bW,bO⟩,_⟩:=A1 Z;obtain⟨⟨bT,bS⟩,⟨bZ,bQ⟩,⟨bU,bV⟩⟩:=Yi Z (.int .u8 N) (.string ⟨J.toArray⟩) (.int .i64 Q))
            | (go_at_call 115;refine(Aa HV _).mono ?_;rintro e' w6 ⟨rfl,X⟩;have U:Below w.heap.size w w6:=(aA.drew).trans (X.mono aA.size)))
          all_goals
            go_wp2
            go_ret2
            first
              |exact⟨_,rfl,World.ownsRow_nil _ _ _ _,U.alloc U.size _⟩
              |exact⟨_,rfl,World.ownsRow_nil _ _ _ _,Be U aA.size _ _ _ _⟩
theorem Xy:∀(f:Nat) (s:ByteArray) (n col:Int) (w:World),s.size<f→s.size≤100000→0≤col→col+s.size≤1000000000 →
  Calls Tryz.prog 71 #[.agg #[.int .i64 n,.int .i64 col,.string s]] w fun e w'=>∃v,e=.returned (.tuple #[v,.int .i64 (P19.line f n col s.data.toList).2])∧Fc w' w.heap.size v (P19.line f n col s.data.toList).1∧Below w.heap.size w w'
 |0,s,n,col,w,h,_,_,_=>absurd h (Nat.not_lt_zero _)
 |f+1,s,n,col,w,h1,h2,h3,h4=>Yv f (Xy f) s n col w h1 h2 h3 h4
end Go.Proofs.YtnjokdbblmlhhaaGreatDoor
