import Derived.Test.YtefokfbgpfcbkaaGreatAAZ
import Derived.WalkSpells
import Derived.WalkLawsBesides
import Derived.Deep.DeepCutAuto
import Derived.Deep.RegionHeld3
import Derived.Deep.AppendLies
import Derived.Lib.ConvBytes
import Derived.Test.YtefokfbgpfcbkaaGreatRows
import Derived.Lib.Strings
import Derived.RangeFuncNested
import Derived.RangeFuncBound
import Derived.Shelf.RegionOpen
import Derived.OwnWalkIn
import Derived.LoopNIn
import Derived.LoopIn
set_option maxRecDepth 100000
set_option linter.unusedVariables false
set_option linter.unusedSimpArgs false
namespace Go.Proofs.YtefokfbgpfcbkaaGreat
open Go.RowKit
theorem nb{b:Bool}(h:b=false):¬b=true:=by simp[h]
theorem Ab{p:Prop}(h:p):Hid p:=h
theorem Aa{p:Prop}(h:Hid p):p:=h
theorem Ao{a b:Bool}(h:a=b):Ending.returned (.bool a)=.returned (.bool b):=by rw[h]
theorem Cn{k:IntKind}{a b:Int}(h:a=b):Ending.returned (.int k a)=.returned (.int k b):=by rw[h]
theorem U3{p:UInt8→Prop}(h:∀n,n<256→p (UInt8.ofNat n))(c:UInt8):p c:=by
 have:=h c.toNat c.toNat_lt;simpa using this
open Go.RowKit
theorem A4{w w':World}(hb:Below w.heap.size w w')(row:Option Nat):w.grownBy w' row:=⟨hb.os,hb.tape,hb.output,hb.size,fun k hk _=>hb.block k hk⟩
section
variable {w w':World} {B:Nat} {e:TypeId} {v:Value} {l:List UInt8}
theorem Ac{a:World}{B n:Nat}(h:Below B a w):Below B a (w.drewN n):=⟨h.os,h.tape,h.output,h.size,h.block⟩
end
open Go.RowKit
variable {F:Fence} {n:Nat} {P:Program}
theorem B8{A B C:World}(h:A.grownBy B none)(k:B.grownBy C none):A.grownBy C none:=
 ⟨k.os.trans h.os,k.tape.trans h.tape,k.output.trans h.output,qK h.size k.size,
  fun i hi hn=>(k.block i (zD hi h.size) (by simp)).trans (h.block i hi (by simp))⟩
structure Er (T:Nat→Prop) (W W':World):Prop where
 size:W.heap.size≤W'.heap.size
 same:∀r,T r→r<W.heap.size→W'.heap[r]?=W.heap[r]?
def Gi{β:Type}(T:Nat→Prop)(J:β→World→Prop):Prop:=
 ∀s W W' row,J s W→W.grownBy W' row→(∀r,row=some r→T r)→J s W'
theorem Gi.putObj{β:Type}{T:Nat→Prop}{J:β→World→Prop}(h:Gi T J){s:β}{W:World}{l:Nat}(o:Obj)(hs:J s W)(hl:T l):J s (W.putObj l o):=
 h s W _ (some l) hs (grownBy_putObj' W l o) (fun r e=>by cases e;exact hl)
def Qbx{α:Type}(F:Fence)(n:Nat)(P:Program)(g:Nat)(lb:Array Value)(encs:α→Array Value)(L:List α)(T:Nat→Prop)(k:Nat)(W:World):Prop:=
 ∀(l:Nat) (J Z:Nat→World→Prop),Gi T J→Gi T Z →
  (∀i x I,L[i]?=some x→J i I→W.heap.size+k≤I.heap.size→YieldAt F (n-1) P l (encs x) I fun e W'=>
   (e=.returned (.bool true)∧J (i+1) W'∧Er T I W')∨(e=.returned (.bool false)∧Z (i+1) W'∧Er T I W')) →
  J 0 W →
  CallsIn F n P g (#[.func (.yield l) #[] #[]]++lb) W fun e W'=>(∃v,e=.returned v)∧(J L.length W'∨∃i,i≤L.length∧Z i W')
def Qbf(T:Nat→Prop)(I:Nat→World→Prop)(J:Code→Nat→World→Prop)(i:Nat)(W:World):Exit→Act→World→Prop
 | .normal,_,W'=>Er T W W'∧I (i+1) W'
 | .ret,_,W'=>Er T W W'∧J .ret (i+1) W'
 | .exit id,_,W'=>Er T W W'∧J (.exit id) (i+1) W'
 | .goto t,_,W'=>Er T W W'∧J (.goto t) (i+1) W'
 |_,_,_=>False
def Hp(C:Nat→Prop)(lo hi:Nat)(r:Nat):Prop:=C r∨(lo≤r∧r<hi)
theorem Wt{α:Type}{g:Operand}{ps:Array Tmp}{assign body:Code}{Q:Exit→Act→World→Prop}{a:Act}{w:World}
  (bK:F.round=none) (h1:1≤n) {gf:Nat} {lb:Array Value} (hg:a.eval g=.func (.func gf) #[] lb) (bC:F.fn gf)
  (eg:∀args w,(callFunc gf args).run P w=.ok (.enter gf args) w)
  {encs:α→Array Value} (L:List α) (C:Nat→Prop) (k:Nat) (hC:∀r,C r→r<w.heap.size)
  (aS:∀W,w.grownBy W none→W.heap.size=w.heap.size+2→Qbx F (n-1) P gf lb encs L (Hp C (w.heap.size+2) (w.heap.size+2+k)) k W)
  (bJ:∀x,(encs x).size=ps.size)
  (I:Nat→World→Prop) (Ix:Code→Nat→World→Prop)
  (hI:Gi (Hp C w.heap.size (w.heap.size+2+k)) I) (aN:∀c,Gi (Hp C w.heap.size (w.heap.size+2+k)) (Ix c)) (h0:I 0 w) (a₁:α→Act)
  (aJ:∀(l:Nat) (x:α) (W:World) (K:Act→World→Prop),K (a₁ x) W →
   assign.wpIn (F.inRound l) (n-1-1) P (Exit.then K (fun _ _ _=>False)) { tmps:=(ps.zip (encs x)).foldl (fun t (p,v)=>t.setIfInBounds p v) a.tmps,defers:=[] } W)
  (aR:∀(l i:Nat) (x:α) (W:World),L[i]?=some x→I i W→w.heap.size+2+k≤W.heap.size →
   body.wpIn (F.inRound l) (n-1-1) P (Qbf (Hp C w.heap.size (w.heap.size+2+k)) I Ix i W) (a₁ x) W)
  (aQ:∀(D:Nat) (W:World),D=w.heap.size→I L.length W→W.heap[D]?=some (.deferred (some [])) →
   Q .normal { a with defers:={ target:=.collected D,args:=#[] }::a.defers } W)
  (aP:∀(D:Nat) (c:Code) (i:Nat) (W:World),D=w.heap.size→i≤L.length→Ix c i W→W.heap[D]?=some (.deferred (some [])) →
   c.wpIn F n P Q { a with defers:={ target:=.collected D,args:=#[] }::a.defers } W) :
  (Code.rangeFunc g ps assign body).wpIn F n P Q a w:=by
 refine wpIn_rangeFunc fun fn bE=>?_;rw[bK]
 let aL:LoopState→Option Code→Loop:=fun st pe=>{ state:=st,pending:=pe,fn,tmps:=a.tmps,params:=ps,assign,body,defers:=w.heap.size }
 obtain⟨rc,aA⟩:∃rc,rc=aL:=⟨_,rfl⟩;obtain⟨W1,aK⟩:=qeX ((w.alloc (.deferred (some []))).alloc (.loop (rc .ready none)));have hsz:W1.heap.size=w.heap.size+2:=by rw[←aK];simp
 have aU:w.grownBy W1 none:=by rw[←aK];exact B8 (qQ w _ none) (qQ _ _ none)
 have aY:W1.heap[w.heap.size+1]?=some (.loop (rc .ready none)):=by
  rw[←aK];have:=qB (w.alloc (.deferred (some []))) (.loop (rc .ready none));rwa [qF]at this
 have aZ:W1.heap[w.heap.size]?=some (.deferred (some [])):=by
  rw[←aK];exact(qD _ _ _ (by simp)).trans (qB w _)
 refine⟨w.heap.size+1,[{ target:=.collected w.heap.size,args:=#[] }],W1,{ target:=.fn (.func gf) lb,args:=#[.func (.yield (w.heap.size+1)) #[] #[]] },W1,gf,
  #[.func (.yield (w.heap.size+1)) #[] #[]]++lb,W1,?_,?_,?_,?_,fun _=>h1,?_⟩
 ·rw[←aK,aA];exact run_enterLoop_outer _ _ _ _ _
 ·simp only[resolve,hg];simp[go_sem]
 ·intro f' aX;simp[Target.leads]at aX;subst aX;exact bC
 ·simp[invoke,go_sem,eg]
 ·have bL:I 0 W1:=hI 0 w W1 none h0 aU (fun r e=>by cases e);have aM:∀r,Hp C (w.heap.size+2) (w.heap.size+2+k) r→Hp C w.heap.size (w.heap.size+2+k) r:=fun r hr=>hr.imp id (fun h=>⟨by omega,h.2⟩)
  have aT:∀r,Hp C (w.heap.size+2) (w.heap.size+2+k) r→r≠w.heap.size∧r≠w.heap.size+1:=fun r hr=>by
   rcases hr with hr|hr
   ·have:=hC r hr;omega
   ·omega
  have aO:∀{A B:World} {row:Option Nat} {q:Nat} {o:Obj},A.grownBy B row→(∀r,row=some r→Hp C (w.heap.size+2) (w.heap.size+2+k) r)→(q=w.heap.size∨q=w.heap.size+1) →
    A.heap[q]?=some o→B.heap[q]?=some o:=fun {A B row q o} hg hr hq ho=>
   (hg.block q (qA.1 ho).1 (fun e=>by have:=aT q (hr q e.symm);omega)).trans ho
  refine(aS W1 aU hsz (w.heap.size+1)
   (fun i W=>I i W∧W.heap[w.heap.size+1]?=some (.loop (rc .ready none))∧W.heap[w.heap.size]?=some (.deferred (some [])))
   (fun i W=>∃c,Ix c i W∧W.heap[w.heap.size+1]?=some (.loop (rc .done (some c)))∧W.heap[w.heap.size]?=some (.deferred (some [])))
   (fun s A B row hs aD hr=>⟨hI s A B row hs.1 aD (fun r e=>aM r (hr r e)),aO aD hr (.inr rfl) hs.2.1,aO aD hr (.inl rfl) hs.2.2⟩)
   (fun s A B row hs aD hr=>by
    obtain⟨c,hc,hl,hk⟩:=hs
    exact⟨c,aN c s A B row hc aD (fun r e=>aM r (hr r e)),aO aD hr (.inr rfl) hl,aO aD hr (.inl rfl) hk⟩)
   ?_ ⟨bL,aY,aZ⟩).mono ?_
  ·rintro i x W hx ⟨hi,hl,hk⟩ bO;have bG:Hp C w.heap.size (w.heap.size+2+k) w.heap.size:=.inr ⟨qJ _,by omega⟩;have aC:Hp C w.heap.size (w.heap.size+2+k) (w.heap.size+1):=.inr ⟨by omega,by omega⟩;have bM:w.heap.size+1<W.heap.size:=(qA.1 hl).1;have hy:=run_yield (P:=P) (args:=encs x) hl (by rw[aA];exact bJ x);rw[aA]at hy;refine⟨fn,_,assign,body,hy,roundIn_of_wpIn bE (aJ _ x W _ ?_)⟩;clear hy;refine⟨_,run_beginRound hl (by rw[aA]),?_⟩;obtain⟨W2,aI⟩:=qeX (W.putObj (w.heap.size+1) (.loop { rc .ready none with state:=.busy }));rw[aI];have bD:W2.heap[w.heap.size+1]?=some (.loop { rc .ready none with state:=.busy }):=by rw[←aI];exact World.putObj_heap_same bM
   have bI:W2.heap[w.heap.size]?=some (.deferred (some [])):=by rw[←aI];exact(World.putObj_heap_other (by omega)).trans hk
   have bQ:W2.heap.size=W.heap.size:=by rw[←aI];simp
   have aB:∀(W3:World) (o:Obj),Er (Hp C w.heap.size (w.heap.size+2+k)) W2 W3 →
     Er (Hp C (w.heap.size+2) (w.heap.size+2+k)) W (W3.putObj (w.heap.size+1) o):=fun W3 o h3=>
    ⟨by have:=h3.size;simp;omega,fun r hr bT=>by
     have hn:=aT r hr
     rw[World.putObj_heap_other hn.2,h3.same r (aM r hr) (by omega),←aI,World.putObj_heap_other hn.2]⟩
   refine wpIn_mono (aR _ i x W2 hx (by rw[←aI];exact hI.putObj _ hi aC) (by omega)) ?_
   have fin:∀(J:Option Code) (W3:World),Er (Hp C w.heap.size (w.heap.size+2+k)) W2 W3 →
     (Instr.endRound (w.heap.size+1) J).run P W3=.ok (.bool J.isNone) (W3.putObj (w.heap.size+1) (.loop (rc (if J.isNone then .ready else .done) J))) ∧
     (W3.putObj (w.heap.size+1) (.loop (rc (if J.isNone then .ready else .done) J))).heap[w.heap.size+1]?=some (.loop (rc (if J.isNone then .ready else .done) J)) ∧
     (W3.putObj (w.heap.size+1) (.loop (rc (if J.isNone then .ready else .done) J))).heap[w.heap.size]?=some (.deferred (some [])):=fun J W3 h3=>by
    have aW:W3.heap[w.heap.size+1]?=some (.loop { rc .ready none with state:=.busy }):=(h3.same _ aC (by omega)).trans bD;have:=run_endRound (P:=P) J aW;rw[aA]at this ⊢;exact⟨this,World.putObj_heap_same (qA.1 aW).1,(World.putObj_heap_other (by omega)).trans ((h3.same _ bG (by omega)).trans bI)⟩
   rintro e a3 W3 hp;cases e with
   |normal=>
    obtain⟨Z,aG⟩:=hp;obtain⟨hr,aH,aE⟩:=fin none W3 Z;exact⟨_,_,hr,.inl ⟨rfl,⟨hI.putObj _ aG aC,aH,aE⟩,aB W3 _ Z⟩⟩
   |ret=>
    obtain⟨Z,aG⟩:=hp;obtain⟨hr,aH,aE⟩:=fin (some .ret) W3 Z;exact⟨_,_,hr,.inr ⟨rfl,⟨.ret,(aN _).putObj _ aG aC,aH,aE⟩,aB W3 _ Z⟩⟩
   |exit id=>
    obtain⟨Z,aG⟩:=hp;obtain⟨hr,aH,aE⟩:=fin (some (.exit id)) W3 Z;exact⟨_,_,hr,.inr ⟨rfl,⟨.exit id,(aN _).putObj _ aG aC,aH,aE⟩,aB W3 _ Z⟩⟩
   |goto t=>
    obtain⟨Z,aG⟩:=hp;obtain⟨hr,aH,aE⟩:=fin (some (.goto t)) W3 Z;exact⟨_,_,hr,.inr ⟨rfl,⟨.goto t,(aN _).putObj _ aG aC,aH,aE⟩,aB W3 _ Z⟩⟩
   |panic ch=>exact hp.elim
   |outgrown=>exact hp.elim
  ·have aC:Hp C w.heap.size (w.heap.size+2+k) (w.heap.size+1):=.inr ⟨by omega,by omega⟩;rintro e W2 ⟨⟨v,rfl⟩,(⟨hi,hl,hk⟩|⟨i,bF,c,hi,hl,hk⟩)⟩
   ·exact⟨none,_,by have:=run_endLoop (P:=P) hl (by rw[aA];simp[aL]);rw[aA]at this;exact this,aQ _ _ rfl (hI.putObj _ hi aC) ((World.putObj_heap_other (by omega)).trans hk)⟩
   ·exact⟨some c,_,by have:=run_endLoop (P:=P) hl (by rw[aA];simp[aL]);rw[aA]at this;exact this,aP _ c i _ rfl bF ((aN c).putObj _ hi aC) ((World.putObj_heap_other (by omega)).trans hk)⟩
open Go.RowKit
variable {F:Fence} {n:Nat} {P:Program}
def B9(R:Nat→Prop)(J:Nat→(Nat→Prop)→World→Prop):Prop:=
 ∀i M W W' row,J i M W→W.grownBy W' row→(∀r,row=some r→¬M r∧¬R r)→J i M W'
theorem B9.putObj{R:Nat→Prop}{J:Nat→(Nat→Prop)→World→Prop}(h:B9 R J){i:Nat}{M:Nat→Prop}{W:World}{l:Nat}(o:Obj)(hs:J i M W)(hl:¬M l)(hr:¬R l):J i M (W.putObj l o):=
 h i M W _ (some l) hs (grownBy_putObj' W l o) (fun r e=>by cases e;exact⟨hl,hr⟩)
structure Aj (M:Nat→Prop) (W:World) (M':Nat→Prop) (W':World):Prop where
 size:W.heap.size≤W'.heap.size
 same:∀r,¬M r→r<W.heap.size→W'.heap[r]?=W.heap[r]?
 more:∀r,M' r→M r∨W.heap.size≤r
theorem Aj.refl(M:Nat→Prop)(W:World):Aj M W M W:=⟨qJ _,fun _ _ _=>rfl,fun _ h=>.inl h⟩
theorem Aj.trans{M I M2:Nat→Prop}{A B C:World}(h:Aj M A I B)(k:Aj I B M2 C):Aj M A M2 C:=
  ⟨qK h.size k.size,fun r hr hl=>(k.same r (fun h1=>(h.more r h1).elim hr (fun h2=>by omega)) (zD hl h.size)).trans (h.same r hr hl),
   fun r hr=>(k.more r hr).elim (h.more r) (fun h2=>.inr (qK h.size h2))⟩
theorem Aj.grown{M:Nat→Prop}{W W':World}{row:Option Nat}(hg:W.grownBy W' row)(hr:∀r,row=some r→M r∨W.heap.size≤r):Aj M W M W':=
 ⟨hg.size,fun r I hl=>hg.block r hl (fun e=>(hr r e.symm).elim I (fun h=>by omega)),fun _ h=>.inl h⟩
def Xl{α:Type}(F:Fence)(n:Nat)(P:Program)(g:Nat)(lb:Array Value)(encs:α→Array Value)(L:List α)(R T:Nat→Prop)(W:World):Prop:=
 ∀(l:Nat) (J I:Nat→(Nat→Prop)→World→Prop),B9 R J→B9 R I→(∀i M V,J i M V→∀r,M r→r<V.heap.size∧¬R r) →
  (∀i x M V,L[i]?=some x→J i M V→W.heap.size≤V.heap.size→YieldAt F (n-1) P l (encs x) V fun e W'=>
   ∃M',Aj M V M' W'∧((e=.returned (.bool true)∧J (i+1) M' W')∨(e=.returned (.bool false)∧I (i+1) M' W'))) →
  ∀M0,(∀r,T r→¬M0 r∧¬R r)→J 0 M0 W →
  CallsIn F n P g (#[.func (.yield l) #[] #[]]++lb) W fun e W'=>(∃v,e=.returned v)∧∃M',J L.length M' W'∨∃i,i≤L.length∧I i M' W'
def Qn(I:Nat→(Nat→Prop)→World→Prop)(J:Code→Nat→(Nat→Prop)→World→Prop)(i:Nat)(M:Nat→Prop)(W:World):Exit→Act→World→Prop
 | .normal,_,W'=>∃M',Aj M W M' W'∧I (i+1) M' W'
 | .ret,_,W'=>∃M',Aj M W M' W'∧J .ret (i+1) M' W'
 | .exit id,_,W'=>∃M',Aj M W M' W'∧J (.exit id) (i+1) M' W'
 | .goto t,_,W'=>∃M',Aj M W M' W'∧J (.goto t) (i+1) M' W'
 |_,_,_=>False
theorem Bu{α:Type}{g:Operand}{ps:Array Tmp}{assign body:Code}{Q:Exit→Act→World→Prop}{a:Act}{w:World}
    (bZ:F.round=none) (h1:1≤n) {gf:Nat} {lb:Array Value} (hg:a.eval g=.func (.func gf) #[] lb) (bO:F.fn gf)
    (eg:∀args w,(callFunc gf args).run P w=.ok (.enter gf args) w)
    {encs:α→Array Value} (L:List α) (R T:Nat→Prop) (hR:∀r,R r→r<w.heap.size)
    (bF:∀W,w.grownBy W none→W.heap.size=w.heap.size+2→Xl F (n-1) P gf lb encs L R T W)
    (bY:∀x,(encs x).size=ps.size)
    (I:Nat→(Nat→Prop)→World→Prop) (Ix:Code→Nat→(Nat→Prop)→World→Prop)
    (hI:B9 R I) (aU:∀c,B9 R (Ix c)) (hM:∀i M V,I i M V→∀r,M r→r<V.heap.size∧¬R r) (M0:Nat→Prop) (hT:∀r,T r→r<w.heap.size∧¬M0 r∧¬R r) (h0:I 0 M0 w)
    (B:Nat→α→(Nat→Prop)→Act→World→Prop)
    (hB:∀i x M a' V V' row,B i x M a' V→V.grownBy V' row→(∀r,row=some r→¬M r∧¬R r)→B i x M a' V')
    (aO:∀(l i:Nat) (x:α) (M:Nat→Prop) (W:World) (K:Act→World→Prop),L[i]?=some x→I i M W→w.heap.size+2≤W.heap.size →
      (∀M' a' W',W.grownBy W' none→(∀r,M' r→M r∨W.heap.size≤r)→B i x M' a' W'→K a' W') →
      assign.wpIn (F.inRound l) (n-1-1) P (Exit.then K (fun _ _ _=>False)) { tmps:=(ps.zip (encs x)).foldl (fun t (p,v)=>t.setIfInBounds p v) a.tmps,defers:=[] } W)
    (bD:∀(l i:Nat) (x:α) (M:Nat→Prop) (a':Act) (W:World),L[i]?=some x→B i x M a' W→w.heap.size+2≤W.heap.size →
      body.wpIn (F.inRound l) (n-1-1) P (Qn I Ix i M W) a' W)
    (aQ:∀(D:Nat) (M:Nat→Prop) (W:World),D=w.heap.size→¬M D→I L.length M W→W.heap[D]?=some (.deferred (some [])) →
      Q .normal { a with defers:={ target:=.collected D,args:=#[] }::a.defers } W)
    (aP:∀(D:Nat) (c:Code) (i:Nat) (M:Nat→Prop) (W:World),D=w.heap.size→¬M D→i≤L.length→Ix c i M W→W.heap[D]?=some (.deferred (some [])) →
      c.wpIn F n P Q { a with defers:={ target:=.collected D,args:=#[] }::a.defers } W) :
    (Code.rangeFunc g ps assign body).wpIn F n P Q a w:=by
  refine wpIn_rangeFunc fun fn bT=>?_;rw[bZ]
  let aS:LoopState→Option Code→Loop:=fun st pe=>{ state:=st,pending:=pe,fn,tmps:=a.tmps,params:=ps,assign,body,defers:=w.heap.size }
  obtain⟨rc,aE⟩:∃rc,rc=aS:=⟨_,rfl⟩;obtain⟨W1,aR⟩:=qeX ((w.alloc (.deferred (some []))).alloc (.loop (rc .ready none)));have hsz:W1.heap.size=w.heap.size+2:=by rw[←aR];simp
  have bJ:w.grownBy W1 none:=by rw[←aR];exact B8 (qQ w _ none) (qQ _ _ none)
  have bE:W1.heap[w.heap.size+1]?=some (.loop (rc .ready none)):=by
    rw[←aR];have:=qB (w.alloc (.deferred (some []))) (.loop (rc .ready none));rwa [qF]at this
  have bG:W1.heap[w.heap.size]?=some (.deferred (some [])):=by
    rw[←aR];exact(qD _ _ _ (by simp)).trans (qB w _)
  obtain⟨D,hD⟩:=qeX w.heap.size;rw[hD]at bE bG hsz;have aX:∀r,R r→r≠D∧r≠D+1:=fun r hr=>by have:=hR r hr;omega
  refine⟨w.heap.size+1,[{ target:=.collected w.heap.size,args:=#[] }],W1,{ target:=.fn (.func gf) lb,args:=#[.func (.yield (w.heap.size+1)) #[] #[]] },W1,gf,
    #[.func (.yield (w.heap.size+1)) #[] #[]]++lb,W1,?_,?_,?_,?_,fun _=>h1,?_⟩
  · rw[←aR,aE];exact run_enterLoop_outer _ _ _ _ _
  · simp only[resolve,hg]
    simp[go_sem]
  · intro f' bL;simp[Target.leads]at bL;subst bL;exact bO
  · simp[invoke,go_sem,eg]
  · have cB:I 0 M0 W1:=hI 0 M0 w W1 none h0 bJ (fun r e=>by cases e)
    rw[hD]
    have aY:∀{A B:World} {M:Nat→Prop} {row:Option Nat} {q:Nat} {o:Obj},A.grownBy B row→(∀r,row=some r→¬(M r∨r=D∨r=D+1)∧¬R r)→(q=D∨q=D+1) →
        A.heap[q]?=some o→B.heap[q]?=some o:=fun {A B M row q o} hg hr hq ho=>
      (hg.block q (qA.1 ho).1 (fun e=>(hr q e.symm).1 (.inr hq))).trans ho
    refine(bF W1 bJ (by omega) (D+1)
      (fun i M' W=>∃M,(M'=fun r=>M r∨r=D∨r=D+1)∧¬M D∧¬M (D+1)∧I i M W∧W.heap[D+1]?=some (.loop (rc .ready none))∧W.heap[D]?=some (.deferred (some [])))
      (fun i M' W=>∃M,(M'=fun r=>M r∨r=D∨r=D+1)∧¬M D∧¬M (D+1)∧∃c,Ix c i M W∧W.heap[D+1]?=some (.loop (rc .done (some c)))∧W.heap[D]?=some (.deferred (some [])))
      ?_ ?_ ?_ ?_ (fun r=>M0 r∨r=D∨r=D+1) ?_ ⟨M0,rfl,fun h=>by have:=(hM 0 M0 w h0 _ h).1;omega,fun h=>by have:=(hM 0 M0 w h0 _ h).1;omega,cB,bE,bG⟩).mono ?_
    · rintro i M' A B row ⟨M,rfl,aC,aD,hs,hl,hk⟩ aI hr
      exact⟨M,rfl,aC,aD,hI i M A B row hs aI (fun r e=>⟨fun h=>(hr r e).1 (.inl h),(hr r e).2⟩),aY aI hr (.inr rfl) hl,aY aI hr (.inl rfl) hk⟩
    · rintro i M' A B row ⟨M,rfl,aC,aD,c,hs,hl,hk⟩ aI hr
      exact⟨M,rfl,aC,aD,c,aU c i M A B row hs aI (fun r e=>⟨fun h=>(hr r e).1 (.inl h),(hr r e).2⟩),aY aI hr (.inr rfl) hl,aY aI hr (.inl rfl) hk⟩
    · rintro i M' V ⟨M,rfl,aC,aD,hs,hl,hk⟩ r hr
      have e1:=(qA.1 hl).1;rcases hr with hr|rfl|rfl
      · exact hM i M V hs r hr
      · exact⟨by omega,fun h=>(aX _ h).1 rfl⟩
      · exact⟨e1,fun h=>(aX _ h).2 rfl⟩
    · rintro i x M' W hx ⟨M,rfl,aC,aD,hi,hl,hk⟩ cD
      have cC:D+1<W.heap.size:=(qA.1 hl).1;have hy:=run_yield (P:=P) (args:=encs x) hl (by rw[aE];exact bY x);rw[aE]at hy;refine⟨fn,_,assign,body,hy,roundIn_of_wpIn bT (aO _ i x M W _ hx hi (by omega) ?_)⟩;clear hy;intro MB a' WB aZ aW bX;have cF:W.heap.size≤WB.heap.size:=aZ.size;have bM:WB.heap[D+1]?=some (.loop (rc .ready none)):=(aZ.block _ cC (by simp)).trans hl;have bW:WB.heap[D]?=some (.deferred (some [])):=(aZ.block _ (by omega) (by simp)).trans hk;have bC:¬MB D:=fun h=>(aW _ h).elim aC (by omega);have aT:¬MB (D+1):=fun h=>(aW _ h).elim aD (by omega);have bI:D+1<WB.heap.size:=by omega
      refine⟨_,run_beginRound bM (by rw[aE]),?_⟩;obtain⟨W2,aN⟩:=qeX (WB.putObj (D+1) (.loop { rc .ready none with state:=.busy }));rw[aN];have bQ:W2.heap[D+1]?=some (.loop { rc .ready none with state:=.busy }):=by rw[←aN];exact World.putObj_heap_same bI
      have bV:W2.heap[D]?=some (.deferred (some [])):=by rw[←aN];exact(World.putObj_heap_other (by omega)).trans bW
      have cG:W2.heap.size=WB.heap.size:=by rw[←aN];simp
      have aH:¬R (D+1):=fun h=>(aX _ h).2 rfl
      have aG:∀(Z:Nat→Prop) (W3:World) (o:Obj),Aj MB W2 Z W3 →
          Aj (fun r=>M r∨r=D∨r=D+1) W (fun r=>Z r∨r=D∨r=D+1) (W3.putObj (D+1) o):=fun Z W3 o h3=>
        ⟨by have:=h3.size;simp;omega,fun r hr cA=>by
          rw[World.putObj_heap_other (fun e=>hr (.inr (.inr e))),h3.same r (fun h=>(aW r h).elim (fun h=>hr (.inl h)) (by omega)) (by omega),←aN,World.putObj_heap_other (fun e=>hr (.inr (.inr e))),aZ.block r cA (by simp)],
         fun r hr=>by
          rcases hr with hr|hr
          · rcases h3.more r hr with h|h
            · exact(aW r h).imp .inl id
            · exact .inr (by omega)
          · exact .inl (.inr hr)⟩
      refine wpIn_mono (bD _ i x MB a' W2 hx (by rw[←aN];exact hB i x MB a' WB _ (some (D+1)) bX (grownBy_putObj' WB (D+1) _) (fun r e=>by cases e;exact⟨aT,aH⟩)) (by omega)) ?_
      have fin:∀(J:Option Code) (Z:Nat→Prop) (W3:World),Aj MB W2 Z W3 →
          (Instr.endRound (D+1) J).run P W3=.ok (.bool J.isNone) (W3.putObj (D+1) (.loop (rc (if J.isNone then .ready else .done) J))) ∧
          (W3.putObj (D+1) (.loop (rc (if J.isNone then .ready else .done) J))).heap[D+1]?=some (.loop (rc (if J.isNone then .ready else .done) J)) ∧
          (W3.putObj (D+1) (.loop (rc (if J.isNone then .ready else .done) J))).heap[D]?=some (.deferred (some []))∧¬Z D∧¬Z (D+1):=fun J Z W3 h3=>by
        have bK:W3.heap[D+1]?=some (.loop { rc .ready none with state:=.busy }):=(h3.same _ aT (by omega)).trans bQ;have:=run_endRound (P:=P) J bK;rw[aE]at this ⊢;exact⟨this,World.putObj_heap_same (qA.1 bK).1,(World.putObj_heap_other (by omega)).trans ((h3.same _ bC (by omega)).trans bV),fun h=>(h3.more _ h).elim bC (by omega),fun h=>(h3.more _ h).elim aT (by omega)⟩
      rintro e a3 W3 hp;cases e with
      |normal=>
        obtain⟨Z,aB,aK⟩:=hp;obtain⟨hr,aM,aJ,aL,aA⟩:=fin none Z W3 aB;exact⟨_,_,hr,_,aG Z W3 _ aB,.inl ⟨rfl,Z,rfl,aL,aA,hI.putObj _ aK aA aH,aM,aJ⟩⟩
      |ret=>
        obtain⟨Z,aB,aK⟩:=hp;obtain⟨hr,aM,aJ,aL,aA⟩:=fin (some .ret) Z W3 aB;exact⟨_,_,hr,_,aG Z W3 _ aB,.inr ⟨rfl,Z,rfl,aL,aA,.ret,(aU _).putObj _ aK aA aH,aM,aJ⟩⟩
      |exit id=>
        obtain⟨Z,aB,aK⟩:=hp;obtain⟨hr,aM,aJ,aL,aA⟩:=fin (some (.exit id)) Z W3 aB;exact⟨_,_,hr,_,aG Z W3 _ aB,.inr ⟨rfl,Z,rfl,aL,aA,.exit id,(aU _).putObj _ aK aA aH,aM,aJ⟩⟩
      |goto t=>
        obtain⟨Z,aB,aK⟩:=hp;obtain⟨hr,aM,aJ,aL,aA⟩:=fin (some (.goto t)) Z W3 aB;exact⟨_,_,hr,_,aG Z W3 _ aB,.inr ⟨rfl,Z,rfl,aL,aA,.goto t,(aU _).putObj _ aK aA aH,aM,aJ⟩⟩
      |panic ch=>exact hp.elim
      |outgrown=>exact hp.elim
    · intro r hr
      have h3:=hT r hr;refine⟨?_,h3.2.2⟩;rintro(h|h|h)
      · exact h3.2.1 h
      · omega
      · omega
    · have aH:¬R (D+1):=fun h=>(aX _ h).2 rfl
      rintro e W2 ⟨⟨v,rfl⟩,M',(⟨M,rfl,aC,aD,hi,hl,hk⟩|⟨i,bU,M,rfl,aC,aD,c,hi,hl,hk⟩)⟩
      · exact⟨none,_,by have:=run_endLoop (P:=P) hl (by rw[aE];simp[aS]);rw[aE]at this;exact this,by rw[hD]at aQ;exact aQ D M _ rfl aC (hI.putObj _ hi aD aH) ((World.putObj_heap_other (by omega)).trans hk)⟩
      · exact⟨some c,_,by have:=run_endLoop (P:=P) hl (by rw[aE];simp[aS]);rw[aE]at this;exact this,by rw[hD]at aP;exact aP D c i M _ rfl aC bU ((aU c).putObj _ hi aD aH) ((World.putObj_heap_other (by omega)).trans hk)⟩
theorem Jf{α:Type}{g:Operand}{ps:Array Tmp}{assign body:Code}{Q:Exit→Act→World→Prop}{a:Act}{w:World}
  (aG:F.round=none) (h1:1≤n) {gf:Nat} {lb:Array Value} (hg:a.eval g=.func (.func gf) #[] lb) (aE:F.fn gf)
  (eg:∀args w,(callFunc gf args).run P w=.ok (.enter gf args) w)
  {encs:α→Array Value} (L:List α) (R T:Nat→Prop) (hR:∀r,R r→r<w.heap.size)
  (aC:∀W,w.grownBy W none→W.heap.size=w.heap.size+2→Xl F (n-1) P gf lb encs L R T W)
  (aD:∀x,(encs x).size=ps.size)
  (I:Nat→(Nat→Prop)→World→Prop) (Ix:Code→Nat→(Nat→Prop)→World→Prop)
  (hI:B9 R I) (aH:∀c,B9 R (Ix c)) (hM:∀i M V,I i M V→∀r,M r→r<V.heap.size∧¬R r) (M0:Nat→Prop) (hT:∀r,T r→r<w.heap.size∧¬M0 r∧¬R r) (h0:I 0 M0 w) (a₁:α→Act)
  (J:∀(l:Nat) (x:α) (W:World) (K:Act→World→Prop),K (a₁ x) W →
   assign.wpIn (F.inRound l) (n-1-1) P (Exit.then K (fun _ _ _=>False)) { tmps:=(ps.zip (encs x)).foldl (fun t (p,v)=>t.setIfInBounds p v) a.tmps,defers:=[] } W)
  (aB:∀(l i:Nat) (x:α) (M:Nat→Prop) (W:World),L[i]?=some x→I i M W→w.heap.size+2≤W.heap.size →
   body.wpIn (F.inRound l) (n-1-1) P (Qn I Ix i M W) (a₁ x) W)
  (aA:∀(D:Nat) (M:Nat→Prop) (W:World),D=w.heap.size→¬M D→I L.length M W→W.heap[D]?=some (.deferred (some [])) →
   Q .normal { a with defers:={ target:=.collected D,args:=#[] }::a.defers } W)
  (Z:∀(D:Nat) (c:Code) (i:Nat) (M:Nat→Prop) (W:World),D=w.heap.size→¬M D→i≤L.length→Ix c i M W→W.heap[D]?=some (.deferred (some [])) →
   c.wpIn F n P Q { a with defers:={ target:=.collected D,args:=#[] }::a.defers } W) :
  (Code.rangeFunc g ps assign body).wpIn F n P Q a w:=
 Bu aG h1 hg aE eg L R T hR aC aD I Ix hI aH hM M0 hT h0 (fun i x M a' V=>a'=a₁ x∧I i M V)
  (fun i x M a' V V' row h hg hr=>⟨h.1,hI i M V V' row h.2 hg hr⟩)
  (fun l i x M W K hx hi hs hK=>J l x W K (hK M _ W ⟨rfl,rfl,rfl,qJ _,fun _ _ _=>rfl⟩ (fun r h=>.inl h) ⟨rfl,hi⟩))
  (fun l i x M a' W hx hb hs=>by rw[hb.1];exact aB l i x M W hx hb.2 hs) aA Z
open Go.RowKit
variable {F:Fence} {n:Nat} {P:Program}
def Qad{α:Type}(F:Fence)(n:Nat)(P:Program)(g:Nat)(lb:Array Value)(encs:α→Array Value)(L:List α)(G:Nat→World→Prop)(R T:Nat→Prop)(W:World):Prop:=
 ∀(l:Nat) (J I:Nat→(Nat→Prop)→World→Prop),B9 R J→B9 R I→(∀i M V,J i M V→∀r,M r→r<V.heap.size∧¬R r) →
  (∀i x M V,L[i]?=some x→J i M V→W.heap.size≤V.heap.size→YieldAt F (n-1) P l (encs x) V fun e W'=>
   ∃M',Aj M V M' W'∧((e=.returned (.bool true)∧J (i+1) M' W')∨(e=.returned (.bool false)∧I (i+1) M' W'))) →
  (∀i M V,J i M V→G i V) →
  ∀M0,(∀r,T r→¬M0 r∧¬R r)→J 0 M0 W →
  CallsIn F n P g (#[.func (.yield l) #[] #[]]++lb) W fun e W'=>(∃v,e=.returned v)∧∃M',J L.length M' W'∨∃i,i≤L.length∧I i M' W'
theorem C3{α:Type}{g:Operand}{ps:Array Tmp}{assign body:Code}{Q:Exit→Act→World→Prop}{a:Act}{w:World}
    (bZ:F.round=none) (h1:1≤n) {gf:Nat} {lb:Array Value} (hg:a.eval g=.func (.func gf) #[] lb) (bO:F.fn gf)
    (eg:∀args w,(callFunc gf args).run P w=.ok (.enter gf args) w)
    {encs:α→Array Value} (L:List α) (G:Nat→World→Prop) (R T:Nat→Prop) (hR:∀r,R r→r<w.heap.size)
    (bF:∀W,w.grownBy W none→W.heap.size=w.heap.size+2→Qad F (n-1) P gf lb encs L G R T W)
    (bY:∀x,(encs x).size=ps.size)
    (I:Nat→(Nat→Prop)→World→Prop) (Ix:Code→Nat→(Nat→Prop)→World→Prop)
    (hI:B9 R I) (aU:∀c,B9 R (Ix c)) (hM:∀i M V,I i M V→∀r,M r→r<V.heap.size∧¬R r) (M0:Nat→Prop) (hT:∀r,T r→r<w.heap.size∧¬M0 r∧¬R r) (h0:I 0 M0 w)
    (B:Nat→α→(Nat→Prop)→Act→World→Prop)
    (hB:∀i x M a' V V' row,B i x M a' V→V.grownBy V' row→(∀r,row=some r→¬M r∧¬R r)→B i x M a' V')
    (aO:∀(l i:Nat) (x:α) (M:Nat→Prop) (W:World) (K:Act→World→Prop),L[i]?=some x→I i M W→w.heap.size+2≤W.heap.size →
      (∀M' a' W',W.grownBy W' none→(∀r,M' r→M r∨W.heap.size≤r)→B i x M' a' W'→K a' W') →
      assign.wpIn (F.inRound l) (n-1-1) P (Exit.then K (fun _ _ _=>False)) { tmps:=(ps.zip (encs x)).foldl (fun t (p,v)=>t.setIfInBounds p v) a.tmps,defers:=[] } W)
    (bD:∀(l i:Nat) (x:α) (M:Nat→Prop) (a':Act) (W:World),L[i]?=some x→B i x M a' W→w.heap.size+2≤W.heap.size →
      body.wpIn (F.inRound l) (n-1-1) P (Qn I Ix i M W) a' W)
    (hz:∀i M V,I i M V→G i V)
    (aQ:∀(D:Nat) (M:Nat→Prop) (W:World),D=w.heap.size→¬M D→I L.length M W→W.heap[D]?=some (.deferred (some [])) →
      Q .normal { a with defers:={ target:=.collected D,args:=#[] }::a.defers } W)
    (aP:∀(D:Nat) (c:Code) (i:Nat) (M:Nat→Prop) (W:World),D=w.heap.size→¬M D→i≤L.length→Ix c i M W→W.heap[D]?=some (.deferred (some [])) →
      c.wpIn F n P Q { a with defers:={ target:=.collected D,args:=#[] }::a.defers } W) :
    (Code.rangeFunc g ps assign body).wpIn F n P Q a w:=by
  refine wpIn_rangeFunc fun fn bT=>?_;rw[bZ]
  let aS:LoopState→Option Code→Loop:=fun st pe=>{ state:=st,pending:=pe,fn,tmps:=a.tmps,params:=ps,assign,body,defers:=w.heap.size }
  obtain⟨rc,aE⟩:∃rc,rc=aS:=⟨_,rfl⟩;obtain⟨W1,aR⟩:=qeX ((w.alloc (.deferred (some []))).alloc (.loop (rc .ready none)));have hsz:W1.heap.size=w.heap.size+2:=by rw[←aR];simp
  have bJ:w.grownBy W1 none:=by rw[←aR];exact B8 (qQ w _ none) (qQ _ _ none)
  have bE:W1.heap[w.heap.size+1]?=some (.loop (rc .ready none)):=by
    rw[←aR];have:=qB (w.alloc (.deferred (some []))) (.loop (rc .ready none));rwa [qF]at this
  have bG:W1.heap[w.heap.size]?=some (.deferred (some [])):=by
    rw[←aR];exact(qD _ _ _ (by simp)).trans (qB w _)
  obtain⟨D,hD⟩:=qeX w.heap.size;rw[hD]at bE bG hsz;have aX:∀r,R r→r≠D∧r≠D+1:=fun r hr=>by have:=hR r hr;omega
  refine⟨w.heap.size+1,[{ target:=.collected w.heap.size,args:=#[] }],W1,{ target:=.fn (.func gf) lb,args:=#[.func (.yield (w.heap.size+1)) #[] #[]] },W1,gf,
    #[.func (.yield (w.heap.size+1)) #[] #[]]++lb,W1,?_,?_,?_,?_,fun _=>h1,?_⟩
  · rw[←aR,aE];exact run_enterLoop_outer _ _ _ _ _
  · simp only[resolve,hg]
    simp[go_sem]
  · intro f' bL;simp[Target.leads]at bL;subst bL;exact bO
  · simp[invoke,go_sem,eg]
  · have cB:I 0 M0 W1:=hI 0 M0 w W1 none h0 bJ (fun r e=>by cases e)
    rw[hD]
    have aY:∀{A B:World} {M:Nat→Prop} {row:Option Nat} {q:Nat} {o:Obj},A.grownBy B row→(∀r,row=some r→¬(M r∨r=D∨r=D+1)∧¬R r)→(q=D∨q=D+1) →
        A.heap[q]?=some o→B.heap[q]?=some o:=fun {A B M row q o} hg hr hq ho=>
      (hg.block q (qA.1 ho).1 (fun e=>(hr q e.symm).1 (.inr hq))).trans ho
    refine(bF W1 bJ (by omega) (D+1)
      (fun i M' W=>∃M,(M'=fun r=>M r∨r=D∨r=D+1)∧¬M D∧¬M (D+1)∧I i M W∧W.heap[D+1]?=some (.loop (rc .ready none))∧W.heap[D]?=some (.deferred (some [])))
      (fun i M' W=>∃M,(M'=fun r=>M r∨r=D∨r=D+1)∧¬M D∧¬M (D+1)∧∃c,Ix c i M W∧W.heap[D+1]?=some (.loop (rc .done (some c)))∧W.heap[D]?=some (.deferred (some [])))
      ?_ ?_ ?_ ?_ (fun i M' V h=>(by obtain⟨M,rfl,_,_,hs,_⟩:=h;exact hz i M V hs)) (fun r=>M0 r∨r=D∨r=D+1) ?_ ⟨M0,rfl,fun h=>by have:=(hM 0 M0 w h0 _ h).1;omega,fun h=>by have:=(hM 0 M0 w h0 _ h).1;omega,cB,bE,bG⟩).mono ?_
    · rintro i M' A B row ⟨M,rfl,aC,aD,hs,hl,hk⟩ aI hr
      exact⟨M,rfl,aC,aD,hI i M A B row hs aI (fun r e=>⟨fun h=>(hr r e).1 (.inl h),(hr r e).2⟩),aY aI hr (.inr rfl) hl,aY aI hr (.inl rfl) hk⟩
    · rintro i M' A B row ⟨M,rfl,aC,aD,c,hs,hl,hk⟩ aI hr
      exact⟨M,rfl,aC,aD,c,aU c i M A B row hs aI (fun r e=>⟨fun h=>(hr r e).1 (.inl h),(hr r e).2⟩),aY aI hr (.inr rfl) hl,aY aI hr (.inl rfl) hk⟩
    · rintro i M' V ⟨M,rfl,aC,aD,hs,hl,hk⟩ r hr
      have e1:=(qA.1 hl).1;rcases hr with hr|rfl|rfl
      · exact hM i M V hs r hr
      · exact⟨by omega,fun h=>(aX _ h).1 rfl⟩
      · exact⟨e1,fun h=>(aX _ h).2 rfl⟩
    · rintro i x M' W hx ⟨M,rfl,aC,aD,hi,hl,hk⟩ cD
      have cC:D+1<W.heap.size:=(qA.1 hl).1;have hy:=run_yield (P:=P) (args:=encs x) hl (by rw[aE];exact bY x);rw[aE]at hy;refine⟨fn,_,assign,body,hy,roundIn_of_wpIn bT (aO _ i x M W _ hx hi (by omega) ?_)⟩;clear hy;intro MB a' WB aZ aW bX;have cF:W.heap.size≤WB.heap.size:=aZ.size;have bM:WB.heap[D+1]?=some (.loop (rc .ready none)):=(aZ.block _ cC (by simp)).trans hl;have bW:WB.heap[D]?=some (.deferred (some [])):=(aZ.block _ (by omega) (by simp)).trans hk;have bC:¬MB D:=fun h=>(aW _ h).elim aC (by omega);have aT:¬MB (D+1):=fun h=>(aW _ h).elim aD (by omega);have bI:D+1<WB.heap.size:=by omega
      refine⟨_,run_beginRound bM (by rw[aE]),?_⟩;obtain⟨W2,aN⟩:=qeX (WB.putObj (D+1) (.loop { rc .ready none with state:=.busy }));rw[aN];have bQ:W2.heap[D+1]?=some (.loop { rc .ready none with state:=.busy }):=by rw[←aN];exact World.putObj_heap_same bI
      have bV:W2.heap[D]?=some (.deferred (some [])):=by rw[←aN];exact(World.putObj_heap_other (by omega)).trans bW
      have cG:W2.heap.size=WB.heap.size:=by rw[←aN];simp
      have aH:¬R (D+1):=fun h=>(aX _ h).2 rfl
      have aG:∀(Z:Nat→Prop) (W3:World) (o:Obj),Aj MB W2 Z W3 →
          Aj (fun r=>M r∨r=D∨r=D+1) W (fun r=>Z r∨r=D∨r=D+1) (W3.putObj (D+1) o):=fun Z W3 o h3=>
        ⟨by have:=h3.size;simp;omega,fun r hr cA=>by
          rw[World.putObj_heap_other (fun e=>hr (.inr (.inr e))),h3.same r (fun h=>(aW r h).elim (fun h=>hr (.inl h)) (by omega)) (by omega),←aN,World.putObj_heap_other (fun e=>hr (.inr (.inr e))),aZ.block r cA (by simp)],
         fun r hr=>by
          rcases hr with hr|hr
          · rcases h3.more r hr with h|h
            · exact(aW r h).imp .inl id
            · exact .inr (by omega)
          · exact .inl (.inr hr)⟩
      refine wpIn_mono (bD _ i x MB a' W2 hx (by rw[←aN];exact hB i x MB a' WB _ (some (D+1)) bX (grownBy_putObj' WB (D+1) _) (fun r e=>by cases e;exact⟨aT,aH⟩)) (by omega)) ?_
      have fin:∀(J:Option Code) (Z:Nat→Prop) (W3:World),Aj MB W2 Z W3 →
          (Instr.endRound (D+1) J).run P W3=.ok (.bool J.isNone) (W3.putObj (D+1) (.loop (rc (if J.isNone then .ready else .done) J))) ∧
          (W3.putObj (D+1) (.loop (rc (if J.isNone then .ready else .done) J))).heap[D+1]?=some (.loop (rc (if J.isNone then .ready else .done) J)) ∧
          (W3.putObj (D+1) (.loop (rc (if J.isNone then .ready else .done) J))).heap[D]?=some (.deferred (some []))∧¬Z D∧¬Z (D+1):=fun J Z W3 h3=>by
        have bK:W3.heap[D+1]?=some (.loop { rc .ready none with state:=.busy }):=(h3.same _ aT (by omega)).trans bQ;have:=run_endRound (P:=P) J bK;rw[aE]at this ⊢;exact⟨this,World.putObj_heap_same (qA.1 bK).1,(World.putObj_heap_other (by omega)).trans ((h3.same _ bC (by omega)).trans bV),fun h=>(h3.more _ h).elim bC (by omega),fun h=>(h3.more _ h).elim aT (by omega)⟩
      rintro e a3 W3 hp;cases e with
      |normal=>
        obtain⟨Z,aB,aK⟩:=hp;obtain⟨hr,aM,aJ,aL,aA⟩:=fin none Z W3 aB;exact⟨_,_,hr,_,aG Z W3 _ aB,.inl ⟨rfl,Z,rfl,aL,aA,hI.putObj _ aK aA aH,aM,aJ⟩⟩
      |ret=>
        obtain⟨Z,aB,aK⟩:=hp;obtain⟨hr,aM,aJ,aL,aA⟩:=fin (some .ret) Z W3 aB;exact⟨_,_,hr,_,aG Z W3 _ aB,.inr ⟨rfl,Z,rfl,aL,aA,.ret,(aU _).putObj _ aK aA aH,aM,aJ⟩⟩
      |exit id=>
        obtain⟨Z,aB,aK⟩:=hp;obtain⟨hr,aM,aJ,aL,aA⟩:=fin (some (.exit id)) Z W3 aB;exact⟨_,_,hr,_,aG Z W3 _ aB,.inr ⟨rfl,Z,rfl,aL,aA,.exit id,(aU _).putObj _ aK aA aH,aM,aJ⟩⟩
      |goto t=>
        obtain⟨Z,aB,aK⟩:=hp;obtain⟨hr,aM,aJ,aL,aA⟩:=fin (some (.goto t)) Z W3 aB;exact⟨_,_,hr,_,aG Z W3 _ aB,.inr ⟨rfl,Z,rfl,aL,aA,.goto t,(aU _).putObj _ aK aA aH,aM,aJ⟩⟩
      |panic ch=>exact hp.elim
      |outgrown=>exact hp.elim
    · intro r hr
      have h3:=hT r hr;refine⟨?_,h3.2.2⟩;rintro(h|h|h)
      · exact h3.2.1 h
      · omega
      · omega
    · have aH:¬R (D+1):=fun h=>(aX _ h).2 rfl
      rintro e W2 ⟨⟨v,rfl⟩,M',(⟨M,rfl,aC,aD,hi,hl,hk⟩|⟨i,bU,M,rfl,aC,aD,c,hi,hl,hk⟩)⟩
      · exact⟨none,_,by have:=run_endLoop (P:=P) hl (by rw[aE];simp[aS]);rw[aE]at this;exact this,by rw[hD]at aQ;exact aQ D M _ rfl aC (hI.putObj _ hi aD aH) ((World.putObj_heap_other (by omega)).trans hk)⟩
      · exact⟨some c,_,by have:=run_endLoop (P:=P) hl (by rw[aE];simp[aS]);rw[aE]at this;exact this,by rw[hD]at aP;exact aP D c i M _ rfl aC bU ((aU c).putObj _ hi aD aH) ((World.putObj_heap_other (by omega)).trans hk)⟩
end Go.Proofs.YtefokfbgpfcbkaaGreat
