/- Lemmas of this claim. -/
import Derived.Test.YtnjokdbblmlhhaaGreatDoorAAY
import Derived.WalkSpells
import Derived.WalkLawsBesides
import Derived.Deep.DeepCutAuto
import Derived.Deep.RegionHeld3
import Derived.Deep.AppendLies
import Derived.Lib.ConvBytes
import Derived.Test.YtnjokdbblmlhhaaGreatDoorRows
import Derived.RangeFuncNested
import Derived.RangeFuncBound
import Derived.Shelf.RegionOpen
import Derived.OwnWalkIn
import Derived.LoopNIn
import Derived.LoopIn
import Derived.Lib.IndexBytes
import Derived.Lib.DecodeN
set_option linter.unusedVariables false
set_option linter.unusedSimpArgs false
namespace Go.Proofs.YtnjokdbblmlhhaaGreatDoor
set_option maxHeartbeats 4000000
set_option maxRecDepth 100000
open Go.RowKit
theorem nb{b:Bool}(h:b=false):¬b=true:=by simp[h]
theorem Ab{p:Prop}(h:p):Hid p:=h
theorem Aa{p:Prop}(h:Hid p):p:=h
theorem Bn{a b:Bool}(h:a=b):Ending.returned (.bool a)=.returned (.bool b):=by rw[h]
theorem De{k:IntKind}{a b:Int}(h:a=b):Ending.returned (.int k a)=.returned (.int k b):=by rw[h]
theorem Im{a b:ByteArray}(h:a=b):Ending.returned (.string a)=.returned (.string b):=by rw[h]
theorem Fy{G D:IntKind}{a b c d:Int}(h1:a=c)(h2:b=d):Ending.returned (.tuple #[.int G a,.int D b])=.returned (.tuple #[.int G c,.int D d]):=by rw[h1,h2]
theorem D1{p:UInt8→Prop}(h:∀n,n<256→p (UInt8.ofNat n))(c:UInt8):p c:=by
 have:=h c.toNat c.toNat_lt;simpa using this
theorem J1{P:Program}{f:FuncId}{args:Array Value}{w:World}{a n:Nat}{v:Value}
  (h:Calls P f args (w.drewN (a+n)) fun e w'=>e=.returned v∧∃m,w'=(w.drewN (a+n)).drewN m) :
  Calls P f args (w.drewN (a+n)) fun e D=>e=.returned v∧∃m,D=w.drewN (a+m):=
 h.mono fun _ _ ⟨he,m,G⟩=>⟨he,n+m,by rw[G,World.drewN_drewN,Nat.add_assoc]⟩
end Go.Proofs.YtnjokdbblmlhhaaGreatDoor
namespace Go.Proofs.YtnjokdbblmlhhaaGreatDoor
set_option maxHeartbeats 4000000
set_option maxRecDepth 100000
theorem E9:(Tryz.prog.info? 5).map (fun i=>(i.zero,i.size,i.bytes))=some (some (.int .u8 0),1,1):=by kernel_rfl
end Go.Proofs.YtnjokdbblmlhhaaGreatDoor
namespace Go.Proofs.YtnjokdbblmlhhaaGreatDoor
set_option maxHeartbeats 4000000
set_option maxRecDepth 100000
open Go.RowKit
def bc(b:UInt8):Value:=.int .u8 (b.toNat:Int)
def Eb(w:World)(B:Nat)(e:TypeId)(v:Value)(l:List UInt8):Prop:=w.ownsRow B e 1 v l.length (l.map bc)
theorem Aj{w w':World}(hb:Below w.heap.size w w')(row:Option Nat):w.grownBy w' row:=⟨hb.os,hb.tape,hb.output,hb.size,fun k hk _=>hb.block k hk⟩
theorem Ir{w w':World}{B n:Nat}{e:TypeId}{size:Nat}{v:Value}{xs:List Value}(h:w.ownsRow B e size v n xs)(hb:Below w.heap.size w w'):w'.ownsRow B e size v n xs:=
 h.kept (Aj hb none) (by cases v.ownBlock<;>simp)
section
variable {w w':World} {B:Nat} {e:TypeId} {v:Value} {l:List UInt8}
theorem Eb.nil(w:World)(B:Nat)(e:TypeId):Eb w B e (.slice none 0 0) []:=World.ownsRow_nil w B e 1
theorem Eb.alloc(h:Eb w B e v l)(o:Obj):Eb (w.alloc o) B e v l:=World.ownsRow.alloc h o
theorem Eb.drew(h:Eb w B e v l):Eb w.drew B e v l:=h
theorem Eb.drewN(h:Eb w B e v l)(n:Nat):Eb (w.drewN n) B e v l:=h
theorem Eb.lt(h:Eb w B e v l):∀k,v.ownBlock=some k→B≤k∧k<w.heap.size:=World.ownsRow.lt h
theorem Eb.lit(w:World){B:Nat}(e:TypeId)(cs:Array Value)(l:List UInt8)(hB:B≤w.heap.size)(hl:l.length≤maxLen)(hc:cs.toList=l.map bc) :
  Eb (w.alloc (.cells cs e)) B e (.slice (some ⟨w.heap.size,0,none⟩) l.length l.length) l:=by
 have hs:cs.size=l.length*1:=by rw[←Array.length_toList,hc];simp
 have:=World.ownsRow_lit (base:=B) (e:=e) (size:=1) w cs l.length hB hl hs;rw[hc]at this;exact this
theorem Ea{P:Program}{G:Array Oper}{rest:List Oper}{o:Oper}{a:Act}{Q:Exit→Act→World→Prop}(I:o.guard=none)(s x:Operand)(t:TypeId)
  (ho:o.op=.call { callee:=.builtin .append,args:=#[s,x],argTypes:=#[t,t] }) (ht:P.underlying t=some (.slice e))
  (S:(P.info? e).map (fun i=>(i.zero,i.size,i.bytes))=some (some (.int .u8 0),1,1))
  (hs:a.eval s=v) (D:Eb w B e v l) (z:Int) (h0:0≤z) (h1:z<256) (hx:a.eval x=.slice (some ⟨w.heap.size,0,none⟩) 1 1)
  (R:l.length<1099511627776) (hB:B≤w.heap.size)
  (h:∀v' w',Eb w' B e v' (l++[UInt8.ofNat z.toNat])→(w.alloc (.cells #[.int .u8 z] e)).grownBy w' v.ownBlock→(v'.ownBlock=v.ownBlock∨v'.ownBlock=some (w.alloc (.cells #[.int .u8 z] e)).heap.size)→wpList P G Q rest (a.put o.dst v') w') :
  wpList P G Q (o::rest) a (w.alloc (.cells #[.int .u8 z] e)):=by
 obtain⟨i,hi,hz,J,N⟩:=info_parts S;obtain⟨n,rfl⟩:=Int.eq_ofNat_of_zero_le h0;have hn:((UInt8.ofNat n).toNat:Int)=(n:Int):=by simp;omega
 refine wpList_append_own_at (w:=w.alloc (.cells #[.int .u8 n] e)) (P:=P) I s x t ho B e i (.int .u8 0) 1 1 ht hi hz J N rfl (by decide) v l.length (l.map bc) hs (World.ownsRow.alloc D _)
  ⟨w.heap.size,0,none⟩ 1 1 [.int .u8 n] hx rfl (cell_one_new _ _ _) (by intro u hu;simp at hu;subst hu;rfl) (by unfold maxLen;omega) (by omega) (by simp;omega) ?_
 intro v' w' h2 h3 _ h5;refine h v' w' ?_ h3 h5;unfold Eb
 have U:(l++[UInt8.ofNat (n:Int).toNat]).map bc=l.map bc++[.int .u8 n]:=by
  rw[List.map_append];simp only[zH,List.map_cons,List.map_nil,bc,hn]
 rw[U,qH];exact h2
theorem Qaf{P:Program}{G:Array Oper}{o:Oper}{a:Act}{K:Act→World→Prop}{Q:Exit→Act→World→Prop}{E:Prop}(I:o.guard=none)(s x:Operand)(t:TypeId)
  (ho:o.op=.call { callee:=.builtin .append,args:=#[s,x],argTypes:=#[t,t] }) (ht:P.underlying t=some (.slice e))
  (S:(P.info? e).map (fun i=>(i.zero,i.size,i.bytes))=some (some (.int .u8 0),1,1))
  (hs:a.eval s=v) (D:Eb w B e v l) (z:Int) (h0:0≤z) (h1:z<256) (ad:Addr) (hx:a.eval x=.slice (some ad) 1 1) (hc:∀j u,[Value.int .u8 z][j]?=some u→w.cell? (ad.add j)=some u)
  (R:l.length<1099511627776) (hB:B≤w.heap.size)
  (h:∀v' w',Eb w' B e v' (l++[UInt8.ofNat z.toNat])→w.grownBy w' v.ownBlock→K (a.put o.dst v') w') :
  if Region.wanted o (yielded G a.tmps)=true then Oper.wp P o a w K Q else E:=by
 obtain⟨i,hi,hz,J,N⟩:=info_parts S;obtain⟨n,rfl⟩:=Int.eq_ofNat_of_zero_le h0;have hn:((UInt8.ofNat n).toNat:Int)=(n:Int):=by simp;omega
 have hw:Region.wanted o (yielded G a.tmps)=true:=by simp[Region.wanted,I]
 rw[if_pos hw]
 refine wp_append_own (w:=w) (P:=P) s x t ho B e i (.int .u8 0) 1 1 ht hi hz J N rfl (by decide) v l.length (l.map bc) hs D
  ad 1 1 [.int .u8 n] hx rfl hc (by intro u hu;simp at hu;subst hu;rfl) (by unfold maxLen;omega) (by omega) hB ?_
 intro v' w' h2 h3 _;refine h v' w' ?_ h3;unfold Eb
 have U:(l++[UInt8.ofNat (n:Int).toNat]).map bc=l.map bc++[.int .u8 n]:=by
  rw[List.map_append];simp only[zH,List.map_cons,List.map_nil,bc,hn]
 rw[U,qH];exact h2
theorem Mm{P:Program}{D:Array Oper}{rest:List Oper}{o:Oper}{a:Act}{Q:Exit→Act→World→Prop}(I:o.guard=none)(s x:Operand)(t u:TypeId)
  (ho:o.op=.call { callee:=.builtin .append,args:=#[s,x],argTypes:=#[t,u] }) (ht:P.underlying t=some (.slice e)) (hu:P.underlying u=some .string)
  (U:(P.info? e).map (fun i=>(i.zero,i.size,i.bytes))=some (some (.int .u8 0),1,1))
  (hs:a.eval s=v) (G:Eb w B e v l) (b:ByteArray) (hx:a.eval x=.string b)
  (R:l.length+b.size<1099511627776) (hB:B≤w.heap.size)
  (h:∀v' w',Eb w' B e v' (l++b.data.toList)→w.grownBy w' v.ownBlock→wpList P D Q rest (a.put o.dst v') w') :
  wpList P D Q (o::rest) a w:=by
 obtain⟨i,hi,hz,J,N⟩:=info_parts U;refine Lib.wpList_append_own_string w I s x t u ho B e i ht hu hi hz J N v l.length (l.map bc) hs G b hx (by unfold maxLen;omega) (by omega) hB ?_;intro v' w' h2 h3 _;refine h v' w' ?_ h3;unfold Eb
 have S:Lib.strCells b=b.data.toList.map bc:=by
  simp[Lib.strCells];intro a _;rfl
 rw[S,←List.map_append,zP,←qH]at h2;exact h2
theorem Jl{P:Program}(D dst:TypeId)(hs:P.underlying D=some (.slice e))(he:P.underlying e=some (.int .u8))(hd:P.underlying dst=some .string)(h:Eb w B e v l) :
  (convert D dst v).run P w=.ok (.string ⟨l.toArray⟩) w:=by
 rcases h.2 with⟨rfl,h0⟩|⟨g,cap,G,rfl,I,hb,hn,J,hc,ht⟩
 ·have:l=[]:=qU h0;subst this;exact run_convert_bytes_nil w D e hs he 0 0 dst hd
 ·refine run_convert_bytes_back w D dst e ⟨g,0,none⟩ cap l hs he hd (fun j hj=>?_);have:=World.ownsRow.cells h (g:=g) rfl j (bc l[j]) (by simp[qO hj]);exact this
theorem Er{D:World}{o:Obj}(hb:Below D.heap.size D w)(G:Eb w D.heap.size e v l)(I:(w.alloc o).grownBy w' v.ownBlock):Below D.heap.size D w':=
 (hb.alloc hb.size o).grown I (by have:=hb.size;simp;omega) (fun k hk=>(G.lt k hk).1)
theorem Oo{D:World}(hb:Below D.heap.size D w)(G:Eb w D.heap.size e v l)(I:w.grownBy w' v.ownBlock):Below D.heap.size D w':=
 hb.grown I hb.size (fun k hk=>(G.lt k hk).1)
theorem Cm{a:World}{B n:Nat}(h:Below B a w):Below B a (w.drewN n):=⟨h.os,h.tape,h.output,h.size,h.block⟩
end
end Go.Proofs.YtnjokdbblmlhhaaGreatDoor
namespace Go.Proofs.YtnjokdbblmlhhaaGreatDoor
set_option maxHeartbeats 4000000
set_option maxRecDepth 100000
open Go.RowKit
variable {F:Fence} {n:Nat} {P:Program}
theorem Cd{A B C:World}(h:A.grownBy B none)(k:B.grownBy C none):A.grownBy C none:=
 ⟨k.os.trans h.os,k.tape.trans h.tape,k.output.trans h.output,qK h.size k.size,
  fun i hi hn=>(k.block i (zB hi h.size) (by simp)).trans (h.block i hi (by simp))⟩
structure Bo (T:Nat→Prop) (W W':World):Prop where
 size:W.heap.size≤W'.heap.size
 same:∀r,T r→r<W.heap.size→W'.heap[r]?=W.heap[r]?
theorem Bo.trans{T:Nat→Prop}{A B C:World}(h:Bo T A B)(k:Bo T B C):Bo T A C:=
 ⟨qK h.size k.size,fun r hr hl=>(k.same r hr (zB hl h.size)).trans (h.same r hr hl)⟩
theorem Bo.mono{T D:Nat→Prop}{A B:World}(h:Bo T A B)(hs:∀r,D r→T r):Bo D A B:=
 ⟨h.size,fun r hr hl=>h.same r (hs r hr) hl⟩
theorem Bo.of_grownBy{T:Nat→Prop}{W W':World}{row:Option Nat}(D:W.grownBy W' row)(hr:∀r,row=some r→¬T r):Bo T W W':=
 ⟨D.size,fun r G hl=>D.block r hl (fun e=>hr r e.symm G)⟩
theorem Bo.alloc(T:Nat→Prop)(W:World)(o:Obj):Bo T W (W.alloc o):=.of_grownBy (qR W o none) (fun r e=>by cases e)
def Ev{β:Type}(T:Nat→Prop)(J:β→World→Prop):Prop:=
 ∀s W W' row,J s W→W.grownBy W' row→(∀r,row=some r→T r)→J s W'
theorem Ev.alloc{β:Type}{T:Nat→Prop}{J:β→World→Prop}(h:Ev T J){s:β}{W:World}(o:Obj)(hs:J s W):J s (W.alloc o):=
 h s W _ none hs (qR W o none) (fun r e=>by cases e)
theorem Ev.putObj{β:Type}{T:Nat→Prop}{J:β→World→Prop}(h:Ev T J){s:β}{W:World}{l:Nat}(o:Obj)(hs:J s W)(hl:T l):J s (W.putObj l o):=
 h s W _ (some l) hs (grownBy_putObj' W l o) (fun r e=>by cases e;exact hl)
def Tv{α:Type}(F:Fence)(n:Nat)(P:Program)(g:Nat)(lb:Array Value)(encs:α→Array Value)(L:List α)(T:Nat→Prop)(k:Nat)(W:World):Prop:=
 ∀(l:Nat) (J D:Nat→World→Prop),Ev T J→Ev T D →
  (∀i x W1,L[i]?=some x→J i W1→W.heap.size+k≤W1.heap.size→YieldAt F (n-1) P l (encs x) W1 fun e W'=>
   (e=.returned (.bool true)∧J (i+1) W'∧Bo T W1 W')∨(e=.returned (.bool false)∧D (i+1) W'∧Bo T W1 W')) →
  J 0 W →
  CallsIn F n P g (#[.func (.yield l) #[] #[]]++lb) W fun e W'=>(∃v,e=.returned v)∧(J L.length W'∨∃i,i≤L.length∧D i W')
def Ul(T:Nat→Prop)(I:Nat→World→Prop)(D:Code→Nat→World→Prop)(i:Nat)(W:World):Exit→Act→World→Prop
 | .normal,_,W'=>Bo T W W'∧I (i+1) W'
 | .ret,_,W'=>Bo T W W'∧D .ret (i+1) W'
 | .exit id,_,W'=>Bo T W W'∧D (.exit id) (i+1) W'
 | .goto t,_,W'=>Bo T W W'∧D (.goto t) (i+1) W'
 |_,_,_=>False
def Ge(C:Nat→Prop)(D hi:Nat)(r:Nat):Prop:=C r∨(D≤r∧r<hi)
theorem Dy{α:Type}{g:Operand}{ps:Array Tmp}{assign body:Code}{Q:Exit→Act→World→Prop}{a:Act}{w:World}
  (hro:F.round=none) (h1:1≤n) {gf:Nat} {lb:Array Value} (hg:a.eval g=.func (.func gf) #[] lb) (bA:F.fn gf)
  (eg:∀args w,(callFunc gf args).run P w=.ok (.enter gf args) w)
  {encs:α→Array Value} (L:List α) (C:Nat→Prop) (k:Nat) (hC:∀r,C r→r<w.heap.size)
  (aN:∀W,w.grownBy W none→W.heap.size=w.heap.size+2→Tv F (n-1) P gf lb encs L (Ge C (w.heap.size+2) (w.heap.size+2+k)) k W)
  (bC:∀x,(encs x).size=ps.size)
  (I:Nat→World→Prop) (Ix:Code→Nat→World→Prop)
  (hI:Ev (Ge C w.heap.size (w.heap.size+2+k)) I) (aE:∀c,Ev (Ge C w.heap.size (w.heap.size+2+k)) (Ix c)) (h0:I 0 w) (a₁:α→Act)
  (aD:∀(l:Nat) (x:α) (W:World) (K:Act→World→Prop),K (a₁ x) W →
   assign.wpIn (F.inRound l) (n-1-1) P (Exit.then K (fun _ _ _=>False)) { tmps:=(ps.zip (encs x)).foldl (fun t (p,v)=>t.setIfInBounds p v) a.tmps,defers:=[] } W)
  (aK:∀(l i:Nat) (x:α) (W:World),L[i]?=some x→I i W→w.heap.size+2+k≤W.heap.size →
   body.wpIn (F.inRound l) (n-1-1) P (Ul (Ge C w.heap.size (w.heap.size+2+k)) I Ix i W) (a₁ x) W)
  (aJ:∀(D:Nat) (W:World),D=w.heap.size→I L.length W→W.heap[D]?=some (.deferred (some [])) →
   Q .normal { a with defers:={ target:=.collected D,args:=#[] }::a.defers } W)
  (aL:∀(D:Nat) (c:Code) (i:Nat) (W:World),D=w.heap.size→i≤L.length→Ix c i W→W.heap[D]?=some (.deferred (some [])) →
   c.wpIn F n P Q { a with defers:={ target:=.collected D,args:=#[] }::a.defers } W) :
  (Code.rangeFunc g ps assign body).wpIn F n P Q a w:=by
 refine wpIn_rangeFunc fun fn aW=>?_;rw[hro]
 let aB:LoopState→Option Code→Loop:=fun st pe=>{ state:=st,pending:=pe,fn,tmps:=a.tmps,params:=ps,assign,body,defers:=w.heap.size }
 obtain⟨rc,R⟩:∃rc,rc=aB:=⟨_,rfl⟩;obtain⟨W1,aC⟩:∃W1,(w.alloc (.deferred (some []))).alloc (.loop (rc .ready none))=W1:=⟨_,rfl⟩;have aS:W1.heap.size=w.heap.size+2:=by rw[←aC];simp
 have aQ:w.grownBy W1 none:=by rw[←aC];exact Cd (qR w _ none) (qR _ _ none)
 have aR:W1.heap[w.heap.size+1]?=some (.loop (rc .ready none)):=by
  rw[←aC];have:=qB (w.alloc (.deferred (some []))) (.loop (rc .ready none));rwa [qF]at this
 have bB:W1.heap[w.heap.size]?=some (.deferred (some [])):=by
  rw[←aC];exact(qD _ _ _ (by simp)).trans (qB w _)
 refine⟨w.heap.size+1,[{ target:=.collected w.heap.size,args:=#[] }],W1,{ target:=.fn (.func gf) lb,args:=#[.func (.yield (w.heap.size+1)) #[] #[]] },W1,gf,
  #[.func (.yield (w.heap.size+1)) #[] #[]]++lb,W1,?_,?_,?_,?_,fun _=>h1,?_⟩
 ·rw[←aC,R];exact run_enterLoop_outer _ _ _ _ _
 ·simp only[resolve,hg];simp[go_sem]
 ·intro f' aO;simp[Target.leads]at aO;subst aO;exact bA
 ·simp[invoke,go_sem,eg]
 ·have aX:I 0 W1:=hI 0 w W1 none h0 aQ (fun r e=>by cases e);have aG:∀r,Ge C (w.heap.size+2) (w.heap.size+2+k) r→Ge C w.heap.size (w.heap.size+2+k) r:=fun r hr=>hr.imp id (fun h=>⟨by omega,h.2⟩)
  have hne:∀r,Ge C (w.heap.size+2) (w.heap.size+2+k) r→r≠w.heap.size∧r≠w.heap.size+1:=fun r hr=>by
   rcases hr with hr|hr
   ·have:=hC r hr;omega
   ·omega
  have aI:∀{A B:World} {row:Option Nat} {q:Nat} {o:Obj},A.grownBy B row→(∀r,row=some r→Ge C (w.heap.size+2) (w.heap.size+2+k) r)→(q=w.heap.size∨q=w.heap.size+1) →
    A.heap[q]?=some o→B.heap[q]?=some o:=fun {A B row q o} hg hr hq ho=>
   (hg.block q (qA.1 ho).1 (fun e=>by have:=hne q (hr q e.symm);omega)).trans ho
  refine(aN W1 aQ aS (w.heap.size+1)
   (fun i W=>I i W∧W.heap[w.heap.size+1]?=some (.loop (rc .ready none))∧W.heap[w.heap.size]?=some (.deferred (some [])))
   (fun i W=>∃c,Ix c i W∧W.heap[w.heap.size+1]?=some (.loop (rc .done (some c)))∧W.heap[w.heap.size]?=some (.deferred (some [])))
   (fun s A B row hs U hr=>⟨hI s A B row hs.1 U (fun r e=>aG r (hr r e)),aI U hr (.inr rfl) hs.2.1,aI U hr (.inl rfl) hs.2.2⟩)
   (fun s A B row hs U hr=>by
    obtain⟨c,hc,hl,hk⟩:=hs
    exact⟨c,aE c s A B row hc U (fun r e=>aG r (hr r e)),aI U hr (.inr rfl) hl,aI U hr (.inl rfl) hk⟩)
   ?_ ⟨aX,aR,bB⟩).mono ?_
  ·rintro i x W hx ⟨hi,hl,hk⟩ bE;have aT:Ge C w.heap.size (w.heap.size+2+k) w.heap.size:=.inr ⟨qJ _,by omega⟩;have S:Ge C w.heap.size (w.heap.size+2+k) (w.heap.size+1):=.inr ⟨by omega,by omega⟩;have aY:w.heap.size+1<W.heap.size:=(qA.1 hl).1;have hy:=run_yield (P:=P) (args:=encs x) hl (by rw[R];exact bC x);rw[R]at hy;refine⟨fn,_,assign,body,hy,roundIn_of_wpIn aW (aD _ x W _ ?_)⟩;clear hy;refine⟨_,run_beginRound hl (by rw[R]),?_⟩;obtain⟨W2,aA⟩:∃W2,W.putObj (w.heap.size+1) (.loop { rc .ready none with state:=.busy })=W2:=⟨_,rfl⟩;rw[aA];have aU:W2.heap[w.heap.size+1]?=some (.loop { rc .ready none with state:=.busy }):=by rw[←aA];exact World.putObj_heap_same aY
   have hk2:W2.heap[w.heap.size]?=some (.deferred (some [])):=by rw[←aA];exact(World.putObj_heap_other (by omega)).trans hk
   have bD:W2.heap.size=W.heap.size:=by rw[←aA];simp
   have N:∀(W3:World) (o:Obj),Bo (Ge C w.heap.size (w.heap.size+2+k)) W2 W3 →
     Bo (Ge C (w.heap.size+2) (w.heap.size+2+k)) W (W3.putObj (w.heap.size+1) o):=fun W3 o h3=>
    ⟨by have:=h3.size;simp;omega,fun r hr bF=>by
     have hn:=hne r hr
     rw[World.putObj_heap_other hn.2,h3.same r (aG r hr) (by omega),←aA,World.putObj_heap_other hn.2]⟩
   refine wpIn_mono (aK _ i x W2 hx (by rw[←aA];exact hI.putObj _ hi S) (by omega)) ?_
   have aH:∀(G:Option Code) (W3:World),Bo (Ge C w.heap.size (w.heap.size+2+k)) W2 W3 →
     (Instr.endRound (w.heap.size+1) G).run P W3=.ok (.bool G.isNone) (W3.putObj (w.heap.size+1) (.loop (rc (if G.isNone then .ready else .done) G))) ∧
     (W3.putObj (w.heap.size+1) (.loop (rc (if G.isNone then .ready else .done) G))).heap[w.heap.size+1]?=some (.loop (rc (if G.isNone then .ready else .done) G)) ∧
     (W3.putObj (w.heap.size+1) (.loop (rc (if G.isNone then .ready else .done) G))).heap[w.heap.size]?=some (.deferred (some [])):=fun G W3 h3=>by
    have aM:W3.heap[w.heap.size+1]?=some (.loop { rc .ready none with state:=.busy }):=(h3.same _ S (by omega)).trans aU;have:=run_endRound (P:=P) G aM;rw[R]at this ⊢;exact⟨this,World.putObj_heap_same (qA.1 aM).1,(World.putObj_heap_other (by omega)).trans ((h3.same _ aT (by omega)).trans hk2)⟩
   rintro e a3 W3 hp;cases e with
   |normal=>
    obtain⟨J,X⟩:=hp;obtain⟨hr,Y,Z⟩:=aH none W3 J;exact⟨_,_,hr,.inl ⟨rfl,⟨hI.putObj _ X S,Y,Z⟩,N W3 _ J⟩⟩
   |ret=>
    obtain⟨J,X⟩:=hp;obtain⟨hr,Y,Z⟩:=aH (some .ret) W3 J;exact⟨_,_,hr,.inr ⟨rfl,⟨.ret,(aE _).putObj _ X S,Y,Z⟩,N W3 _ J⟩⟩
   |exit id=>
    obtain⟨J,X⟩:=hp;obtain⟨hr,Y,Z⟩:=aH (some (.exit id)) W3 J;exact⟨_,_,hr,.inr ⟨rfl,⟨.exit id,(aE _).putObj _ X S,Y,Z⟩,N W3 _ J⟩⟩
   |goto t=>
    obtain⟨J,X⟩:=hp;obtain⟨hr,Y,Z⟩:=aH (some (.goto t)) W3 J;exact⟨_,_,hr,.inr ⟨rfl,⟨.goto t,(aE _).putObj _ X S,Y,Z⟩,N W3 _ J⟩⟩
   |panic ch=>exact hp.elim
   |outgrown=>exact hp.elim
  ·have S:Ge C w.heap.size (w.heap.size+2+k) (w.heap.size+1):=.inr ⟨by omega,by omega⟩;rintro e W2 ⟨⟨v,rfl⟩,(⟨hi,hl,hk⟩|⟨i,aZ,c,hi,hl,hk⟩)⟩
   ·exact⟨none,_,by have:=run_endLoop (P:=P) hl (by rw[R];simp[aB]);rw[R]at this;exact this,aJ _ _ rfl (hI.putObj _ hi S) ((World.putObj_heap_other (by omega)).trans hk)⟩
   ·exact⟨some c,_,by have:=run_endLoop (P:=P) hl (by rw[R];simp[aB]);rw[R]at this;exact this,aL _ c i _ rfl aZ ((aE c).putObj _ hi S) ((World.putObj_heap_other (by omega)).trans hk)⟩
end Go.Proofs.YtnjokdbblmlhhaaGreatDoor
namespace Go.Proofs.YtnjokdbblmlhhaaGreatDoor
set_option maxHeartbeats 4000000
set_option maxRecDepth 100000
open Go.RowKit
variable {F:Fence} {n:Nat} {P:Program}
def Dg(R:Nat→Prop)(J:Nat→(Nat→Prop)→World→Prop):Prop:=
 ∀i M W W' row,J i M W→W.grownBy W' row→(∀r,row=some r→¬M r∧¬R r)→J i M W'
theorem Dg.alloc{R:Nat→Prop}{J:Nat→(Nat→Prop)→World→Prop}(h:Dg R J){i:Nat}{M:Nat→Prop}{W:World}(o:Obj)(hs:J i M W):J i M (W.alloc o):=
 h i M W _ none hs (qR W o none) (fun r e=>by cases e)
theorem Dg.putObj{R:Nat→Prop}{J:Nat→(Nat→Prop)→World→Prop}(h:Dg R J){i:Nat}{M:Nat→Prop}{W:World}{l:Nat}(o:Obj)(hs:J i M W)(hl:¬M l)(hr:¬R l):J i M (W.putObj l o):=
 h i M W _ (some l) hs (grownBy_putObj' W l o) (fun r e=>by cases e;exact⟨hl,hr⟩)
structure Au (M:Nat→Prop) (W:World) (M':Nat→Prop) (W':World):Prop where
 size:W.heap.size≤W'.heap.size
 same:∀r,¬M r→r<W.heap.size→W'.heap[r]?=W.heap[r]?
 more:∀r,M' r→M r∨W.heap.size≤r
theorem Au.refl(M:Nat→Prop)(W:World):Au M W M W:=⟨qJ _,fun _ _ _=>rfl,fun _ h=>.inl h⟩
theorem Au.trans{M D M2:Nat→Prop}{A B C:World}(h:Au M A D B)(k:Au D B M2 C):Au M A M2 C:=
  ⟨qK h.size k.size,fun r hr hl=>(k.same r (fun h1=>(h.more r h1).elim hr (fun h2=>by omega)) (zB hl h.size)).trans (h.same r hr hl),
   fun r hr=>(k.more r hr).elim (h.more r) (fun h2=>.inr (qK h.size h2))⟩
theorem Au.grown{M:Nat→Prop}{W W':World}{row:Option Nat}(D:W.grownBy W' row)(hr:∀r,row=some r→M r∨W.heap.size≤r):Au M W M W':=
 ⟨D.size,fun r G hl=>D.block r hl (fun e=>(hr r e.symm).elim G (fun h=>by omega)),fun _ h=>.inl h⟩
def Tb{α:Type}(F:Fence)(n:Nat)(P:Program)(g:Nat)(lb:Array Value)(encs:α→Array Value)(L:List α)(R T:Nat→Prop)(W:World):Prop:=
 ∀(l:Nat) (J D:Nat→(Nat→Prop)→World→Prop),Dg R J→Dg R D→(∀i M V,J i M V→∀r,M r→r<V.heap.size∧¬R r) →
  (∀i x M V,L[i]?=some x→J i M V→W.heap.size≤V.heap.size→YieldAt F (n-1) P l (encs x) V fun e W'=>
   ∃M',Au M V M' W'∧((e=.returned (.bool true)∧J (i+1) M' W')∨(e=.returned (.bool false)∧D (i+1) M' W'))) →
  ∀G,(∀r,T r→¬G r∧¬R r)→J 0 G W →
  CallsIn F n P g (#[.func (.yield l) #[] #[]]++lb) W fun e W'=>(∃v,e=.returned v)∧∃M',J L.length M' W'∨∃i,i≤L.length∧D i M' W'
def Po(I:Nat→(Nat→Prop)→World→Prop)(D:Code→Nat→(Nat→Prop)→World→Prop)(i:Nat)(M:Nat→Prop)(W:World):Exit→Act→World→Prop
 | .normal,_,W'=>∃M',Au M W M' W'∧I (i+1) M' W'
 | .ret,_,W'=>∃M',Au M W M' W'∧D .ret (i+1) M' W'
 | .exit id,_,W'=>∃M',Au M W M' W'∧D (.exit id) (i+1) M' W'
 | .goto t,_,W'=>∃M',Au M W M' W'∧D (.goto t) (i+1) M' W'
 |_,_,_=>False
theorem Dp{α:Type}{g:Operand}{ps:Array Tmp}{assign body:Code}{Q:Exit→Act→World→Prop}{a:Act}{w:World}
    (hro:F.round=none) (h1:1≤n) {gf:Nat} {lb:Array Value} (hg:a.eval g=.func (.func gf) #[] lb) (bP:F.fn gf)
    (eg:∀args w,(callFunc gf args).run P w=.ok (.enter gf args) w)
    {encs:α→Array Value} (L:List α) (R T:Nat→Prop) (hR:∀r,R r→r<w.heap.size)
    (bA:∀W,w.grownBy W none→W.heap.size=w.heap.size+2→Tb F (n-1) P gf lb encs L R T W)
    (bQ:∀x,(encs x).size=ps.size)
    (I:Nat→(Nat→Prop)→World→Prop) (Ix:Code→Nat→(Nat→Prop)→World→Prop)
    (hI:Dg R I) (aN:∀c,Dg R (Ix c)) (hM:∀i M V,I i M V→∀r,M r→r<V.heap.size∧¬R r) (M0:Nat→Prop) (hT:∀r,T r→r<w.heap.size∧¬M0 r∧¬R r) (h0:I 0 M0 w)
    (B:Nat→α→(Nat→Prop)→Act→World→Prop)
    (hB:∀i x M a' V V' row,B i x M a' V→V.grownBy V' row→(∀r,row=some r→¬M r∧¬R r)→B i x M a' V')
    (aM:∀(l i:Nat) (x:α) (M:Nat→Prop) (W:World) (K:Act→World→Prop),L[i]?=some x→I i M W→w.heap.size+2≤W.heap.size →
      (∀M' a' W',W.grownBy W' none→(∀r,M' r→M r∨W.heap.size≤r)→B i x M' a' W'→K a' W') →
      assign.wpIn (F.inRound l) (n-1-1) P (Exit.then K (fun _ _ _=>False)) { tmps:=(ps.zip (encs x)).foldl (fun t (p,v)=>t.setIfInBounds p v) a.tmps,defers:=[] } W)
    (aX:∀(l i:Nat) (x:α) (M:Nat→Prop) (a':Act) (W:World),L[i]?=some x→B i x M a' W→w.heap.size+2≤W.heap.size →
      body.wpIn (F.inRound l) (n-1-1) P (Po I Ix i M W) a' W)
    (aJ:∀(D:Nat) (M:Nat→Prop) (W:World),D=w.heap.size→¬M D→I L.length M W→W.heap[D]?=some (.deferred (some [])) →
      Q .normal { a with defers:={ target:=.collected D,args:=#[] }::a.defers } W)
    (aO:∀(D:Nat) (c:Code) (i:Nat) (M:Nat→Prop) (W:World),D=w.heap.size→¬M D→i≤L.length→Ix c i M W→W.heap[D]?=some (.deferred (some [])) →
      c.wpIn F n P Q { a with defers:={ target:=.collected D,args:=#[] }::a.defers } W) :
    (Code.rangeFunc g ps assign body).wpIn F n P Q a w:=by
  refine wpIn_rangeFunc fun fn bI=>?_;rw[hro]
  let aI:LoopState→Option Code→Loop:=fun st pe=>{ state:=st,pending:=pe,fn,tmps:=a.tmps,params:=ps,assign,body,defers:=w.heap.size }
  obtain⟨rc,Z⟩:∃rc,rc=aI:=⟨_,rfl⟩;obtain⟨W1,aK⟩:∃W1,(w.alloc (.deferred (some []))).alloc (.loop (rc .ready none))=W1:=⟨_,rfl⟩;have bF:W1.heap.size=w.heap.size+2:=by rw[←aK];simp
  have bD:w.grownBy W1 none:=by rw[←aK];exact Cd (qR w _ none) (qR _ _ none)
  have aY:W1.heap[w.heap.size+1]?=some (.loop (rc .ready none)):=by
    rw[←aK];have:=qB (w.alloc (.deferred (some []))) (.loop (rc .ready none));rwa [qF]at this
  have bE:W1.heap[w.heap.size]?=some (.deferred (some [])):=by
    rw[←aK];exact(qD _ _ _ (by simp)).trans (qB w _)
  obtain⟨D,hD⟩:∃D,w.heap.size=D:=⟨_,rfl⟩;rw[hD]at aY bE bF;have aR:∀r,R r→r≠D∧r≠D+1:=fun r hr=>by have:=hR r hr;omega
  refine⟨w.heap.size+1,[{ target:=.collected w.heap.size,args:=#[] }],W1,{ target:=.fn (.func gf) lb,args:=#[.func (.yield (w.heap.size+1)) #[] #[]] },W1,gf,
    #[.func (.yield (w.heap.size+1)) #[] #[]]++lb,W1,?_,?_,?_,?_,fun _=>h1,?_⟩
  · rw[←aK,Z];exact run_enterLoop_outer _ _ _ _ _
  · simp only[resolve,hg]
    simp[go_sem]
  · intro f' bC;simp[Target.leads]at bC;subst bC;exact bP
  · simp[invoke,go_sem,eg]
  · have bK:I 0 M0 W1:=hI 0 M0 w W1 none h0 bD (fun r e=>by cases e)
    rw[hD]
    have aT:∀{A B:World} {M:Nat→Prop} {row:Option Nat} {q:Nat} {o:Obj},A.grownBy B row→(∀r,row=some r→¬(M r∨r=D∨r=D+1)∧¬R r)→(q=D∨q=D+1) →
        A.heap[q]?=some o→B.heap[q]?=some o:=fun {A B M row q o} hg hr hq ho=>
      (hg.block q (qA.1 ho).1 (fun e=>(hr q e.symm).1 (.inr hq))).trans ho
    refine(bA W1 bD (by omega) (D+1)
      (fun i M' W=>∃M,(M'=fun r=>M r∨r=D∨r=D+1)∧¬M D∧¬M (D+1)∧I i M W∧W.heap[D+1]?=some (.loop (rc .ready none))∧W.heap[D]?=some (.deferred (some [])))
      (fun i M' W=>∃M,(M'=fun r=>M r∨r=D∨r=D+1)∧¬M D∧¬M (D+1)∧∃c,Ix c i M W∧W.heap[D+1]?=some (.loop (rc .done (some c)))∧W.heap[D]?=some (.deferred (some [])))
      ?_ ?_ ?_ ?_ (fun r=>M0 r∨r=D∨r=D+1) ?_ ⟨M0,rfl,fun h=>by have:=(hM 0 M0 w h0 _ h).1;omega,fun h=>by have:=(hM 0 M0 w h0 _ h).1;omega,bK,aY,bE⟩).mono ?_
    · rintro i M' A B row ⟨M,rfl,X,U,hs,hl,hk⟩ aB hr
      exact⟨M,rfl,X,U,hI i M A B row hs aB (fun r e=>⟨fun h=>(hr r e).1 (.inl h),(hr r e).2⟩),aT aB hr (.inr rfl) hl,aT aB hr (.inl rfl) hk⟩
    · rintro i M' A B row ⟨M,rfl,X,U,c,hs,hl,hk⟩ aB hr
      exact⟨M,rfl,X,U,c,aN c i M A B row hs aB (fun r e=>⟨fun h=>(hr r e).1 (.inl h),(hr r e).2⟩),aT aB hr (.inr rfl) hl,aT aB hr (.inl rfl) hk⟩
    · rintro i M' V ⟨M,rfl,X,U,hs,hl,hk⟩ r hr
      have e1:=(qA.1 hl).1;rcases hr with hr|rfl|rfl
      · exact hM i M V hs r hr
      · exact⟨by omega,fun h=>(aR _ h).1 rfl⟩
      · exact⟨e1,fun h=>(aR _ h).2 rfl⟩
    · rintro i x M' W hx ⟨M,rfl,X,U,hi,hl,hk⟩ bS
      have bM:D+1<W.heap.size:=(qA.1 hl).1;have hy:=run_yield (P:=P) (args:=encs x) hl (by rw[Z];exact bQ x);rw[Z]at hy;refine⟨fn,_,assign,body,hy,roundIn_of_wpIn bI (aM _ i x M W _ hx hi (by omega) ?_)⟩;clear hy;intro MB a' WB aQ aU bG;have bT:W.heap.size≤WB.heap.size:=aQ.size;have bO:WB.heap[D+1]?=some (.loop (rc .ready none)):=(aQ.block _ bM (by simp)).trans hl;have bL:WB.heap[D]?=some (.deferred (some [])):=(aQ.block _ (by omega) (by simp)).trans hk;have aW:¬MB D:=fun h=>(aU _ h).elim X (by omega);have aL:¬MB (D+1):=fun h=>(aU _ h).elim U (by omega);have bB:D+1<WB.heap.size:=by omega
      refine⟨_,run_beginRound bO (by rw[Z]),?_⟩;obtain⟨W2,aH⟩:∃W2,WB.putObj (D+1) (.loop { rc .ready none with state:=.busy })=W2:=⟨_,rfl⟩;rw[aH];have bH:W2.heap[D+1]?=some (.loop { rc .ready none with state:=.busy }):=by rw[←aH];exact World.putObj_heap_same bB
      have hk2:W2.heap[D]?=some (.deferred (some [])):=by rw[←aH];exact(World.putObj_heap_other (by omega)).trans bL
      have bR:W2.heap.size=WB.heap.size:=by rw[←aH];simp
      have aA:¬R (D+1):=fun h=>(aR _ h).2 rfl
      have Y:∀(J:Nat→Prop) (W3:World) (o:Obj),Au MB W2 J W3 →
          Au (fun r=>M r∨r=D∨r=D+1) W (fun r=>J r∨r=D∨r=D+1) (W3.putObj (D+1) o):=fun J W3 o h3=>
        ⟨by have:=h3.size;simp;omega,fun r hr bJ=>by
          rw[World.putObj_heap_other (fun e=>hr (.inr (.inr e))),h3.same r (fun h=>(aU r h).elim (fun h=>hr (.inl h)) (by omega)) (by omega),←aH,World.putObj_heap_other (fun e=>hr (.inr (.inr e))),aQ.block r bJ (by simp)],
         fun r hr=>by
          rcases hr with hr|hr
          · rcases h3.more r hr with h|h
            · exact(aU r h).imp .inl id
            · exact .inr (by omega)
          · exact .inl (.inr hr)⟩
      refine wpIn_mono (aX _ i x MB a' W2 hx (by rw[←aH];exact hB i x MB a' WB _ (some (D+1)) bG (grownBy_putObj' WB (D+1) _) (fun r e=>by cases e;exact⟨aL,aA⟩)) (by omega)) ?_
      have aS:∀(G:Option Code) (J:Nat→Prop) (W3:World),Au MB W2 J W3 →
          (Instr.endRound (D+1) G).run P W3=.ok (.bool G.isNone) (W3.putObj (D+1) (.loop (rc (if G.isNone then .ready else .done) G))) ∧
          (W3.putObj (D+1) (.loop (rc (if G.isNone then .ready else .done) G))).heap[D+1]?=some (.loop (rc (if G.isNone then .ready else .done) G)) ∧
          (W3.putObj (D+1) (.loop (rc (if G.isNone then .ready else .done) G))).heap[D]?=some (.deferred (some []))∧¬J D∧¬J (D+1):=fun G J W3 h3=>by
        have aZ:W3.heap[D+1]?=some (.loop { rc .ready none with state:=.busy }):=(h3.same _ aL (by omega)).trans bH;have:=run_endRound (P:=P) G aZ;rw[Z]at this ⊢;exact⟨this,World.putObj_heap_same (qA.1 aZ).1,(World.putObj_heap_other (by omega)).trans ((h3.same _ aW (by omega)).trans hk2),fun h=>(h3.more _ h).elim aW (by omega),fun h=>(h3.more _ h).elim aL (by omega)⟩
      rintro e a3 W3 hp;cases e with
      |normal=>
        obtain⟨J,S,aC⟩:=hp;obtain⟨hr,aD,aG,aE,N⟩:=aS none J W3 S;exact⟨_,_,hr,_,Y J W3 _ S,.inl ⟨rfl,J,rfl,aE,N,hI.putObj _ aC N aA,aD,aG⟩⟩
      |ret=>
        obtain⟨J,S,aC⟩:=hp;obtain⟨hr,aD,aG,aE,N⟩:=aS (some .ret) J W3 S;exact⟨_,_,hr,_,Y J W3 _ S,.inr ⟨rfl,J,rfl,aE,N,.ret,(aN _).putObj _ aC N aA,aD,aG⟩⟩
      |exit id=>
        obtain⟨J,S,aC⟩:=hp;obtain⟨hr,aD,aG,aE,N⟩:=aS (some (.exit id)) J W3 S;exact⟨_,_,hr,_,Y J W3 _ S,.inr ⟨rfl,J,rfl,aE,N,.exit id,(aN _).putObj _ aC N aA,aD,aG⟩⟩
      |goto t=>
        obtain⟨J,S,aC⟩:=hp;obtain⟨hr,aD,aG,aE,N⟩:=aS (some (.goto t)) J W3 S;exact⟨_,_,hr,_,Y J W3 _ S,.inr ⟨rfl,J,rfl,aE,N,.goto t,(aN _).putObj _ aC N aA,aD,aG⟩⟩
      |panic ch=>exact hp.elim
      |outgrown=>exact hp.elim
    · intro r hr
      have h3:=hT r hr;refine⟨?_,h3.2.2⟩;rintro(h|h|h)
      · exact h3.2.1 h
      · omega
      · omega
    · have aA:¬R (D+1):=fun h=>(aR _ h).2 rfl
      rintro e W2 ⟨⟨v,rfl⟩,M',(⟨M,rfl,X,U,hi,hl,hk⟩|⟨i,bN,M,rfl,X,U,c,hi,hl,hk⟩)⟩
      · exact⟨none,_,by have:=run_endLoop (P:=P) hl (by rw[Z];simp[aI]);rw[Z]at this;exact this,by rw[hD]at aJ;exact aJ D M _ rfl X (hI.putObj _ hi U aA) ((World.putObj_heap_other (by omega)).trans hk)⟩
      · exact⟨some c,_,by have:=run_endLoop (P:=P) hl (by rw[Z];simp[aI]);rw[Z]at this;exact this,by rw[hD]at aO;exact aO D c i M _ rfl X bN ((aN c).putObj _ hi U aA) ((World.putObj_heap_other (by omega)).trans hk)⟩
theorem Hq{α:Type}{g:Operand}{Z:Array Tmp}{assign body:Code}{Q:Exit→Act→World→Prop}{a:Act}{w:World}
  (hro:F.round=none) (h1:1≤n) {gf:Nat} {lb:Array Value} (hg:a.eval g=.func (.func gf) #[] lb) (aA:F.fn gf)
  (eg:∀args w,(callFunc gf args).run P w=.ok (.enter gf args) w)
  {encs:α→Array Value} (L:List α) (R T:Nat→Prop) (hR:∀r,R r→r<w.heap.size)
  (U:∀W,w.grownBy W none→W.heap.size=w.heap.size+2→Tb F (n-1) P gf lb encs L R T W)
  (aB:∀x,(encs x).size=Z.size)
  (I:Nat→(Nat→Prop)→World→Prop) (X:Code→Nat→(Nat→Prop)→World→Prop)
  (hI:Dg R I) (Y:∀c,Dg R (X c)) (hM:∀i M V,I i M V→∀r,M r→r<V.heap.size∧¬R r) (M0:Nat→Prop) (hT:∀r,T r→r<w.heap.size∧¬M0 r∧¬R r) (h0:I 0 M0 w) (a₁:α→Act)
  (G:∀(l:Nat) (x:α) (W:World) (K:Act→World→Prop),K (a₁ x) W →
   assign.wpIn (F.inRound l) (n-1-1) P (Exit.then K (fun _ _ _=>False)) { tmps:=(Z.zip (encs x)).foldl (fun t (p,v)=>t.setIfInBounds p v) a.tmps,defers:=[] } W)
  (J:∀(l i:Nat) (x:α) (M:Nat→Prop) (W:World),L[i]?=some x→I i M W→w.heap.size+2≤W.heap.size →
   body.wpIn (F.inRound l) (n-1-1) P (Po I X i M W) (a₁ x) W)
  (S:∀(D:Nat) (M:Nat→Prop) (W:World),D=w.heap.size→¬M D→I L.length M W→W.heap[D]?=some (.deferred (some [])) →
   Q .normal { a with defers:={ target:=.collected D,args:=#[] }::a.defers } W)
  (N:∀(D:Nat) (c:Code) (i:Nat) (M:Nat→Prop) (W:World),D=w.heap.size→¬M D→i≤L.length→X c i M W→W.heap[D]?=some (.deferred (some [])) →
   c.wpIn F n P Q { a with defers:={ target:=.collected D,args:=#[] }::a.defers } W) :
  (Code.rangeFunc g Z assign body).wpIn F n P Q a w:=
 Dp hro h1 hg aA eg L R T hR U aB I X hI Y hM M0 hT h0 (fun i x M a' V=>a'=a₁ x∧I i M V)
  (fun i x M a' V V' row h hg hr=>⟨h.1,hI i M V V' row h.2 hg hr⟩)
  (fun l i x M W K hx hi hs hK=>G l x W K (hK M _ W ⟨rfl,rfl,rfl,qJ _,fun _ _ _=>rfl⟩ (fun r h=>.inl h) ⟨rfl,hi⟩))
  (fun l i x M a' W hx hb hs=>by rw[hb.1];exact J l i x M W hx hb.2 hs) S N
end Go.Proofs.YtnjokdbblmlhhaaGreatDoor
namespace Go.Proofs.YtnjokdbblmlhhaaGreatDoor
set_option maxHeartbeats 4000000
set_option maxRecDepth 100000
namespace P03
def rune(n:Int):Bool:=decide (0≤n)&&(decide (n≤1114111)&&(decide (n<55296)||decide (57343<n)))
def contLoop:Nat→Int→List UInt8→Option Int
 |0,n,_=>some n
 |r+1,n,l=>if ((l.getD 0 0).toNat:Int)<128∨192≤((l.getD 0 0).toNat:Int) then none else contLoop r (n*64+((l.getD 0 0).toNat:Int)-128) (l.drop 1)
def tailOf(k:Nat)(n least:Int)(l:List UInt8):Int × Int:=
 if (l.length:Int)≤(k:Int) then (0,0) else match contLoop k n (l.drop 1)with
 |none=>(0,0)
 |some m=>if m<least then (0,0) else if rune m=false then (0,0) else ((k:Int)+1,m)
def one(l:List UInt8):Int × Int:=
 if ((l.getD 0 0).toNat:Int)<128 then (1,((l.getD 0 0).toNat:Int))
 else if 192≤((l.getD 0 0).toNat:Int)∧((l.getD 0 0).toNat:Int)<224 then tailOf 1 (((l.getD 0 0).toNat:Int)-192) 128 l
 else if 224≤((l.getD 0 0).toNat:Int)∧((l.getD 0 0).toNat:Int)<240 then tailOf 2 (((l.getD 0 0).toNat:Int)-224) 2048 l
 else if 240≤((l.getD 0 0).toNat:Int)∧((l.getD 0 0).toNat:Int)<248 then tailOf 3 (((l.getD 0 0).toNat:Int)-240) 65536 l
 else (0,0)
theorem getD_drop(s:ByteArray)(k:Nat)(h:k<s.size):(s.data.toList.drop k).getD 0 0=s[k]:=by
 rw[List.getD_eq_getElem?_getD,List.getElem?_drop,Nat.add_zero,Lib.data_getElem? s k h];rfl
theorem drop_len(s:ByteArray)(k:Nat):(s.data.toList.drop k).length=s.size-k:=by rw[qQ,zP]
def firstBad:Nat→Nat→List UInt8→Int
 |0,_,_=>-1
 |f+1,p,l=>if l.length=0 then -1 else if ((one l).1==0)=true then (p:Int) else firstBad f (p+(one l).1.toNat) (l.drop (one l).1.toNat)
def first(l:List UInt8):Int:=firstBad (l.length+1) 0 l
def taken(l:List UInt8)(r:Int):Int:=if (r != 65533)=true then ((Utf8.encode r).size:Int) else if Lib.hasPrefix l [239,191,189]=true then 3 else 0
def check(l:List UInt8)(most:Int):Int:=if most<(l.length:Int) then 2 else if 0≤first l then 9 else 0
theorem Hj(k:Nat)(n least:Int)(l:List UInt8):0≤(tailOf k n least l).1∧(tailOf k n least l).1≤k+1∧((tailOf k n least l).1≤l.length):=by
 unfold tailOf
 repeat' split
 all_goals simp
 all_goals omega
theorem one_bd(l:List UInt8)(h:0<l.length):0≤(one l).1∧(one l).1≤4∧(one l).1≤l.length:=by
 unfold one;have h1:=Hj 1 (((l.getD 0 0).toNat:Int)-192) 128 l;have h2:=Hj 2 (((l.getD 0 0).toNat:Int)-224) 2048 l;have h3:=Hj 3 (((l.getD 0 0).toNat:Int)-240) 65536 l;generalize ((l.getD 0 0).toNat:Int)=c at *
 repeat' split
 all_goals omega
theorem one_1{l:List UInt8}{b:UInt8}(h:l.getD 0 0=b)(h1:b.toNat<128):one l=(1,(b.toNat:Int)):=by
 unfold one;rw[h,if_pos (by omega)]
theorem one_2{l:List UInt8}{b:UInt8}(h:l.getD 0 0=b)(h1:192≤b.toNat)(h2:b.toNat<224):one l=tailOf 1 ((b.toNat:Int)-192) 128 l:=by
 unfold one;rw[h,if_neg (by omega),if_pos (by omega)]
theorem one_3{l:List UInt8}{b:UInt8}(h:l.getD 0 0=b)(h1:224≤b.toNat)(h2:b.toNat<240):one l=tailOf 2 ((b.toNat:Int)-224) 2048 l:=by
 unfold one;rw[h,if_neg (by omega),if_neg (by omega),if_pos (by omega)]
theorem one_4{l:List UInt8}{b:UInt8}(h:l.getD 0 0=b)(h1:240≤b.toNat)(h2:b.toNat<248):one l=tailOf 3 ((b.toNat:Int)-240) 65536 l:=by
 unfold one;rw[h,if_neg (by omega),if_neg (by omega),if_neg (by omega),if_pos (by omega)]
theorem one_0{l:List UInt8}{b:UInt8}(h:l.getD 0 0=b)(h1:128≤b.toNat)(h2:b.toNat<192∨248≤b.toNat):one l=(0,0):=by
 unfold one;rw[h,if_neg (by omega),if_neg (by omega),if_neg (by omega),if_neg (by omega)]
theorem tailOf_short{k:Nat}{n least:Int}{l:List UInt8}(h:(l.length:Int)≤(k:Int)):tailOf k n least l=(0,0):=by
 unfold tailOf;rw[if_pos h]
theorem tailOf_none{k:Nat}{n least:Int}{l:List UInt8}(h:¬(l.length:Int)≤(k:Int))(hc:contLoop k n (l.drop 1)=none):tailOf k n least l=(0,0):=by
 unfold tailOf;rw[if_neg h,hc]
theorem tailOf_some{k:Nat}{n least m:Int}{l:List UInt8}(h:¬(l.length:Int)≤(k:Int))(hc:contLoop k n (l.drop 1)=some m) :
  tailOf k n least l=if m<least then (0,0) else if rune m=false then (0,0) else ((k:Int)+1,m):=by
 unfold tailOf;rw[if_neg h,hc]
theorem Kk(r:Nat)(n:Int)(l:List UInt8):contLoop (r+1) n l=if ((l.getD 0 0).toNat:Int)<128∨192≤((l.getD 0 0).toNat:Int) then none else contLoop r (n*64+((l.getD 0 0).toNat:Int)-128) (l.drop 1):=rfl
theorem cont_0(n:Int)(l:List UInt8):contLoop 0 n l=some n:=rfl
theorem cont_no{r:Nat}{n:Int}{l:List UInt8}{b:UInt8}(h:l.getD 0 0=b)(h1:(b.toNat:Int)<128∨192≤(b.toNat:Int)):contLoop (r+1) n l=none:=by
 rw[Kk,h,if_pos h1]
theorem cont_yes{r:Nat}{n:Int}{l:List UInt8}{b:UInt8}(h:l.getD 0 0=b)(h1:¬((b.toNat:Int)<128∨192≤(b.toNat:Int))):contLoop (r+1) n l=contLoop r (n*64+(b.toNat:Int)-128) (l.drop 1):=by
 rw[Kk,h,if_neg h1]
end P03
end Go.Proofs.YtnjokdbblmlhhaaGreatDoor
namespace Go.Proofs.YtnjokdbblmlhhaaGreatDoor
set_option maxHeartbeats 4000000
set_option maxRecDepth 100000
namespace P03
def M4(n b0 b1 b2 b3:Nat):Nat:=
 if b0<128 then 1
 else if 192≤b0∧b0<224 then (if 1<n∧(128≤b1∧b1<192)∧128≤(b0-192)*64+(b1-128) then 2 else 0)
 else if 224≤b0∧b0<240 then (if 2<n∧(128≤b1∧b1<192)∧(128≤b2∧b2<192)∧2048≤(b0-224)*4096+(b1-128)*64+(b2-128) ∧
   ((b0-224)*4096+(b1-128)*64+(b2-128)<55296∨57343<(b0-224)*4096+(b1-128)*64+(b2-128)) then 3 else 0)
 else if 240≤b0∧b0<248 then (if 3<n∧(128≤b1∧b1<192)∧(128≤b2∧b2<192)∧(128≤b3∧b3<192)∧65536≤(b0-240)*262144+(b1-128)*4096+(b2-128)*64+(b3-128) ∧
   (b0-240)*262144+(b1-128)*4096+(b2-128)*64+(b3-128)≤1114111 then 4 else 0)
 else 0
theorem Mi(n b0 b1 b2 b3:Nat)(hn:0<n)(h0:b0<256) :
  (M4 n b0 b1 b2 b3=0∧Lib.decodeN n b0 b1 b2 b3=(65533,1)∧¬(2<n∧b0=239∧b1=191∧b2=189)) ∨
  (M4 n b0 b1 b2 b3≠0∧(Lib.decodeN n b0 b1 b2 b3).2=M4 n b0 b1 b2 b3∧((Lib.decodeN n b0 b1 b2 b3).1=65533→2<n∧b0=239∧b1=191∧b2=189)):=by
 have key:∀(x:Nat) (y:Nat × Nat),M4 n b0 b1 b2 b3=x→Lib.decodeN n b0 b1 b2 b3=y→((x=0∧y=(65533,1)∧¬(2<n∧b0=239∧b1=191∧b2=189))∨(x≠0∧y.2=x∧(y.1=65533→2<n∧b0=239∧b1=191∧b2=189))):=by
  intro x y hx D;unfold M4 at hx;unfold Lib.decodeN at D
  repeat' split at hx
  all_goals repeat' split at D
  all_goals subst hx D
  all_goals first
   |(exfalso;omega)
   |(refine .inl ⟨rfl,rfl,?_⟩;omega)
   |(refine .inr ⟨by omega,rfl,fun h=>?_⟩;simp only at h;omega)
 exact key _ _ rfl rfl
theorem Ja(n:Int):rune n=true↔(0≤n∧n≤1114111∧(n<55296∨57343<n)):=by simp[rune]
theorem B8(l:List UInt8)(j:Nat):(l.drop j).getD 0 0=l.getD j 0:=by simp[List.getD_eq_getElem?_getD]
theorem Or(k:Nat)(m least:Int):(if m<least then ((0:Int),(0:Int)) else if rune m=false then (0,0) else ((k:Int)+1,m)).1=if least≤m∧rune m=true then (k:Int)+1 else 0:=by
 cases hr:rune m<;>by_cases h:m<least
 ·rw[if_pos h,if_neg (by simp)]
 ·rw[if_neg h,if_pos rfl,if_neg (by simp)]
 ·rw[if_pos h,if_neg (by omega)]
 ·rw[if_neg h,if_neg (by simp),if_pos ⟨by omega,rfl⟩]
def ct(b:UInt8):Prop:=128≤b.toNat∧b.toNat<192
instance (b:UInt8):Decidable (ct b):=by unfold ct;exact inferInstance
theorem J3{b:UInt8}(h:¬ct b):(b.toNat:Int)<128∨192≤(b.toNat:Int):=by unfold ct at h;omega
theorem Hs{b:UInt8}(h:ct b):¬((b.toNat:Int)<128∨192≤(b.toNat:Int)):=by unfold ct at h;omega
theorem Uz(n0 least:Int)(l:List UInt8):(tailOf 1 n0 least l).1=if 1<l.length∧ct (l.getD 1 0)∧least≤n0*64+((l.getD 1 0).toNat:Int)-128∧rune (n0*64+((l.getD 1 0).toNat:Int)-128)=true then 2 else 0:=by
 by_cases h:l.length≤1
 ·rw[tailOf_short (by omega),if_neg (by omega)]
 ·by_cases h1:ct (l.getD 1 0)
  ·rw[tailOf_some (by omega) ((cont_yes (B8 l 1) (Hs h1)).trans (cont_0 _ _)),Or];by_cases h2:least≤n0*64+((l.getD 1 0).toNat:Int)-128∧rune (n0*64+((l.getD 1 0).toNat:Int)-128)=true
   ·rw[if_pos h2,if_pos ⟨by omega,h1,h2⟩];rfl
   ·rw[if_neg h2,if_neg (fun h=>h2 h.2.2)]
  ·rw[tailOf_none (by omega) (cont_no (B8 l 1) (J3 h1)),if_neg (fun h=>h1 h.2.1)]
theorem Ut(n0 least:Int)(l:List UInt8):(tailOf 2 n0 least l).1=if 2<l.length∧ct (l.getD 1 0)∧ct (l.getD 2 0)∧least≤(n0*64+((l.getD 1 0).toNat:Int)-128)*64+((l.getD 2 0).toNat:Int)-128∧rune ((n0*64+((l.getD 1 0).toNat:Int)-128)*64+((l.getD 2 0).toNat:Int)-128)=true then 3 else 0:=by
 by_cases h:l.length≤2
 ·rw[tailOf_short (by omega),if_neg (by omega)]
 ·by_cases h1:ct (l.getD 1 0)
  ·have D:=cont_yes (r:=1) (n:=n0) (B8 l 1) (Hs h1);rw[zI]at D;by_cases h2:ct (l.getD 2 0)
   ·rw[tailOf_some (by omega) (D.trans ((cont_yes (B8 l 2) (Hs h2)).trans (cont_0 _ _))),Or];by_cases h3:least≤(n0*64+((l.getD 1 0).toNat:Int)-128)*64+((l.getD 2 0).toNat:Int)-128∧rune ((n0*64+((l.getD 1 0).toNat:Int)-128)*64+((l.getD 2 0).toNat:Int)-128)=true
    ·rw[if_pos h3,if_pos ⟨by omega,h1,h2,h3⟩];rfl
    ·rw[if_neg h3,if_neg (fun h=>h3 h.2.2.2)]
   ·rw[tailOf_none (by omega) (D.trans (cont_no (B8 l 2) (J3 h2))),if_neg (fun h=>h2 h.2.2.1)]
  ·rw[tailOf_none (by omega) (cont_no (B8 l 1) (J3 h1)),if_neg (fun h=>h1 h.2.1)]
theorem U2(n0 least:Int)(l:List UInt8):(tailOf 3 n0 least l).1=if 3<l.length∧ct (l.getD 1 0)∧ct (l.getD 2 0)∧ct (l.getD 3 0)∧least≤((n0*64+((l.getD 1 0).toNat:Int)-128)*64+((l.getD 2 0).toNat:Int)-128)*64+((l.getD 3 0).toNat:Int)-128∧rune (((n0*64+((l.getD 1 0).toNat:Int)-128)*64+((l.getD 2 0).toNat:Int)-128)*64+((l.getD 3 0).toNat:Int)-128)=true then 4 else 0:=by
 by_cases h:l.length≤3
 ·rw[tailOf_short (by omega),if_neg (by omega)]
 ·by_cases h1:ct (l.getD 1 0)
  ·have D:=cont_yes (r:=2) (n:=n0) (B8 l 1) (Hs h1);rw[zI]at D;by_cases h2:ct (l.getD 2 0)
   ·have G:=cont_yes (r:=1) (n:=n0*64+((l.getD 1 0).toNat:Int)-128) (B8 l 2) (Hs h2);rw[zI]at G;by_cases h3:ct (l.getD 3 0)
    ·rw[tailOf_some (by omega) (D.trans (G.trans ((cont_yes (B8 l 3) (Hs h3)).trans (cont_0 _ _)))),Or];by_cases h4:least≤((n0*64+((l.getD 1 0).toNat:Int)-128)*64+((l.getD 2 0).toNat:Int)-128)*64+((l.getD 3 0).toNat:Int)-128∧rune (((n0*64+((l.getD 1 0).toNat:Int)-128)*64+((l.getD 2 0).toNat:Int)-128)*64+((l.getD 3 0).toNat:Int)-128)=true
     ·rw[if_pos h4,if_pos ⟨by omega,h1,h2,h3,h4⟩];rfl
     ·rw[if_neg h4,if_neg (fun h=>h4 h.2.2.2.2)]
    ·rw[tailOf_none (by omega) (D.trans (G.trans (cont_no (B8 l 3) (J3 h3)))),if_neg (fun h=>h3 h.2.2.2.1)]
   ·rw[tailOf_none (by omega) (D.trans (cont_no (B8 l 2) (J3 h2))),if_neg (fun h=>h2 h.2.2.1)]
  ·rw[tailOf_none (by omega) (cont_no (B8 l 1) (J3 h1)),if_neg (fun h=>h1 h.2.1)]
theorem Up(l:List UInt8):(one l).1=(M4 l.length (l.getD 0 0).toNat (l.getD 1 0).toNat (l.getD 2 0).toNat (l.getD 3 0).toNat:Int):=by
 generalize hb:l.getD 0 0=b;have G:=b.toNat_lt;unfold M4;by_cases c1:b.toNat<128
 ·rw[one_1 hb c1,if_pos c1];rfl
 ·by_cases c2:b.toNat<192
  ·rw[one_0 hb (by omega) (by omega),if_neg c1,if_neg (by omega),if_neg (by omega),if_neg (by omega)];rfl
  ·by_cases c3:b.toNat<224
   ·rw[one_2 hb (by omega) c3,if_neg c1,if_pos (by omega),Uz];simp only[ct,Ja];split<;>split<;>first|rfl|(exfalso;omega)
   ·by_cases D:b.toNat<240
    ·rw[one_3 hb (by omega) D,if_neg c1,if_neg (by omega),if_pos (by omega),Ut];simp only[ct,Ja];split<;>split<;>first|rfl|(exfalso;omega)
    ·by_cases I:b.toNat<248
     ·rw[one_4 hb (by omega) I,if_neg c1,if_neg (by omega),if_neg (by omega),if_pos (by omega),U2];simp only[ct,Ja];split<;>split<;>first|rfl|(exfalso;omega)
     ·rw[one_0 hb (by omega) (by omega),if_neg c1,if_neg (by omega),if_neg (by omega),if_neg (by omega)];rfl
theorem get_drop(s:ByteArray)(p j:Nat):s.get! (p+j)=(s.data.toList.drop p).getD j 0:=by
 rw[List.getD_eq_getElem?_getD,List.getElem?_drop];by_cases h:p+j<s.size
 ·rw[Lib.data_getElem? s _ h];show s.get! (p+j)=_;simp[ByteArray.get!,getElem!_pos,h];rfl
 ·rw[List.getElem?_eq_none (by rw[←zP];omega)];show s.data[p+j]! = _;rw[getElem!_neg _ _ (by simpa using h)];rfl
theorem Rb(r:Int):(((Utf8.encode r).size:Int)==0)=false:=by
 unfold Utf8.encode;simp only
 repeat' split
 all_goals rfl
theorem meets(s:ByteArray)(p:Nat)(h:p<s.size) :
  (((one (s.data.toList.drop p)).1==0)=true∧(taken (s.data.toList.drop p) ((Utf8.decode s p).1:Int)==0)=true) ∨
  (((one (s.data.toList.drop p)).1==0)=false∧(taken (s.data.toList.drop p) ((Utf8.decode s p).1:Int)==0)=false∧(one (s.data.toList.drop p)).1=((Utf8.decode s p).2:Int)):=by
 have hd:=Lib.decode_at s p;have G:=get_drop s p 0;rw[Nat.add_zero]at G;rw[G,get_drop,get_drop,get_drop]at hd;have hl:=drop_len s p;have ho:=Up (s.data.toList.drop p);rw[hl]at ho;have hk:=Mi (s.size-p) ((s.data.toList.drop p).getD 0 0).toNat ((s.data.toList.drop p).getD 1 0).toNat ((s.data.toList.drop p).getD 2 0).toNat ((s.data.toList.drop p).getD 3 0).toNat (by omega) (UInt8.toNat_lt _);rw[←hd]at hk
 have D:Lib.hasPrefix (s.data.toList.drop p) [239,191,189]=true↔(2<s.size-p∧((s.data.toList.drop p).getD 0 0).toNat=239∧((s.data.toList.drop p).getD 1 0).toNat=191∧((s.data.toList.drop p).getD 2 0).toNat=189):=by
  rw[←hl];generalize s.data.toList.drop p=l
  match l with
  | []=>simp[Lib.hasPrefix]
  | [a]=>simp[Lib.hasPrefix]
  | [a,b]=>simp[Lib.hasPrefix]
  |a::b::c::r=>
   simp[Lib.hasPrefix,←UInt8.toNat_inj];omega
 rcases hk with⟨h1,h2,h3⟩|⟨h1,h2,h3⟩
 ·refine .inl ⟨by rw[ho,h1];rfl,?_⟩;rw[h2,taken,if_neg (by simp),if_neg (fun h=>h3 (D.1 h))];rfl
 ·refine .inr ⟨by rw[ho];exact beq_eq_false_iff_ne.2 (by omega),?_,by rw[ho,h2]⟩;by_cases hr:(Utf8.decode s p).1=65533
  ·rw[hr,taken,if_neg (by simp),if_pos (D.2 (h3 hr))];rfl
  ·have hne:(((Utf8.decode s p).1:Int) != 65533)=true:=by simp;omega
   rw[taken,if_pos hne];exact Rb _
end P03
end Go.Proofs.YtnjokdbblmlhhaaGreatDoor
namespace Go.Proofs.YtnjokdbblmlhhaaGreatDoor
set_option maxHeartbeats 4000000
set_option maxRecDepth 100000
open Go.RowKit
def C7:List UInt8→List (List UInt8)
 | []=>[]
 |c::r=>if c=10 then [c]::C7 r else match C7 r with
  | []=>[[c]]
  |l::ls=>(c::l)::ls
def Ib(l:List UInt8):List UInt8:=if l.getLast?=some 10 then l.dropLast else l
def Bk(s:List UInt8):List (List UInt8):=(C7 s).map Ib
def C5(s:List UInt8):Option Nat:=s.findIdx? (· == 10)
theorem Ki:∀(s:List UInt8) (i:Nat),C5 s=some i→C7 s=s.take (i+1)::C7 (s.drop (i+1))
 | [],i,h=>by simp[C5]at h
 |c::r,i,h=>by
  unfold C5 at h;rw[List.findIdx?_cons]at h;by_cases hc:c=10
  ·subst hc;simp at h;subst h;simp[C7]
  ·simp[hc]at h;obtain⟨j,hj,rfl⟩:=h;have:=Ki r j hj;rw[C7,if_neg hc,this];simp
theorem J0:∀(s:List UInt8),s≠[]→C5 s=none→C7 s=[s]
 | [],h,_=>absurd rfl h
 | [c],_,h=>by
  unfold C5 at h;simp at h;simp[C7,h]
 |c::d::r,_,h=>by
  unfold C5 at h;rw[List.findIdx?_cons]at h;by_cases hc:c=10
  ·simp[hc]at h
  ·have h2:C5 (d::r)=none:=by
    unfold C5;simp[hc]at h;simp[h.1];exact h.2
   have:=J0 (d::r) (by simp) h2;rw[C7,if_neg hc,this]
def Wr:List UInt8→List UInt8→List (List UInt8)
 |now,[]=>if now=[] then [] else [now]
 |now,c::r=>if c=10 then now::Wr [] r else Wr (now++[c]) r
theorem Qaj(l:List UInt8):Ib (l++[10])=l:=by simp[Ib]
theorem Qak(l:List UInt8)(h:(10:UInt8)∉l):Ib l=l:=by
 unfold Ib;rw[if_neg];intro h2;exact h (List.mem_of_getLast? h2)
theorem Xq:∀(s now:List UInt8),(10:UInt8)∉now→Wr now s=Bk (now++s)
 | [],now,h=>by
  unfold Wr;split
  ·rename_i h2;subst h2;rfl
  ·rename_i h2
   have h3:C5 now=none:=by
    unfold C5;rw[List.findIdx?_eq_none_iff];intro x hx;have:x≠10:=fun e=>h (e ▸ hx);simpa using this
   rw[List.append_nil,Bk,J0 now h2 h3];simp[Qak now h]
 |c::r,now,h=>by
  unfold Wr;split
  ·rename_i hc;subst hc
   have h3:C5 (now++10::r)=some now.length:=by
    unfold C5;rw[List.findIdx?_append]
    have:now.findIdx? (· == 10)=none:=by
     rw[List.findIdx?_eq_none_iff];intro x hx;have:x≠10:=fun e=>h (e ▸ hx);simpa using this
    rw[this,List.findIdx?_cons];simp
   rw[Bk,Ki _ _ h3]
   have D:(now++10::r).take (now.length+1)=now++[10]:=by
    rw[List.take_length_add_append];rfl
   have G:(now++10::r).drop (now.length+1)=r:=by
    rw[List.drop_length_add_append];rfl
   rw[D,G,List.map_cons,Qaj,Xq r [] (by simp)];rfl
  ·rename_i hc
   rw[Xq r (now++[c]) (by simp[h];exact fun e=>hc e.symm)];simp
theorem Z4(s:List UInt8):Wr [] s=Bk s:=by rw[Xq s [] (by simp)];rfl
def Pl(l:List UInt8):List UInt8:=(l.reverse.dropWhile (· == 32)).reverse
def Fo(l:List UInt8):List UInt8:=l.dropWhile (· == 32)
def B1:Bool→Bool→Bool→Nat→List UInt8→Nat
 |_,_,_,k,[]=>k
 |bl,within,taken,k,c::r=>
  if taken then B1 (c==32) within false (k+1) r
  else if within&&c==92 then B1 (c==32) within true (k+1) r
  else if c==34 then B1 (c==32) (!within) false (k+1) r
  else if within||c != 35 then B1 (c==32) within false (k+1) r
  else if bl then k
  else B1 (c==32) within false (k+1) r
def C1(l:List UInt8):List UInt8:=Pl (l.take (B1 true false false 0 l))
def oddB(c:UInt8):Bool:=c<32||c==127
end Go.Proofs.YtnjokdbblmlhhaaGreatDoor
namespace Go.Proofs.YtnjokdbblmlhhaaGreatDoor
set_option maxHeartbeats 4000000
set_option maxRecDepth 100000
open Go.RowKit
theorem P6(n b0 b1 b2 b3:Nat)(hn:1≤n)(h0:128≤b0) :
  128≤(Lib.decodeN n b0 b1 b2 b3).1∧1≤(Lib.decodeN n b0 b1 b2 b3).2∧(Lib.decodeN n b0 b1 b2 b3).2≤4∧(Lib.decodeN n b0 b1 b2 b3).2≤n ∧
  (1<(Lib.decodeN n b0 b1 b2 b3).2→128≤b1)∧(2<(Lib.decodeN n b0 b1 b2 b3).2→128≤b2)∧(3<(Lib.decodeN n b0 b1 b2 b3).2→128≤b3):=by
 have key:∀y:Nat × Nat,Lib.decodeN n b0 b1 b2 b3=y→128≤y.1∧1≤y.2∧y.2≤4∧y.2≤n∧(1<y.2→128≤b1)∧(2<y.2→128≤b2)∧(3<y.2→128≤b3):=by
  intro y D;unfold Lib.decodeN at D
  repeat' split at D
  all_goals subst D
  all_goals refine⟨?_,?_,?_,?_,?_,?_,?_⟩
  all_goals simp only
  all_goals omega
 exact key _ rfl
theorem Rl(n b0 b1 b2 b3:Nat)(h0:b0<128):Lib.decodeN n b0 b1 b2 b3=(b0,1):=by
 unfold Lib.decodeN;rw[if_pos h0]
def Hl(r:Nat):Bool:=decide (r<32)||r==127
theorem R6(c:UInt8):oddB c=Hl c.toNat:=by
 revert c;apply D1;decide +kernel
theorem Pv(c:UInt8)(h:128≤c.toNat):oddB c=false:=by
 rw[R6];unfold Hl;simp;omega
theorem Ga(s:ByteArray)(p j:Nat):s.get! (p+j)=(s.data.toList.drop p).getD j 0:=P03.get_drop s p j
theorem Ob(s:ByteArray)(k:Nat)(h:k<s.size) :
  1≤(Utf8.decode s k).2∧k+(Utf8.decode s k).2≤s.size∧((s.data.toList.drop k).take (Utf8.decode s k).2).any oddB=Hl (Utf8.decode s k).1:=by
 have hd:=Lib.decode_at s k;have G:=Ga s k 0;rw[Nat.add_zero]at G;rw[G,Ga,Ga,Ga]at hd;have hl:(s.data.toList.drop k).length=s.size-k:=P03.drop_len s k;generalize s.data.toList.drop k=l at *
 match l,hl with
 |a::r,hl=>
  by_cases ha:a.toNat<128
  ·rw[show (a::r).getD 0 0=a from rfl,Rl _ _ _ _ _ ha]at hd;rw[hd];refine⟨qJ _,by simp;omega,?_⟩;simp[R6]
  ·have hh:=P6 (s.size-k) a.toNat ((a::r).getD 1 0).toNat ((a::r).getD 2 0).toNat ((a::r).getD 3 0).toNat (by omega) (by omega);rw[show ((a::r).getD 0 0)=a from rfl]at hd;rw[←hd]at hh;obtain⟨h1,h2,h3,h4,h5,h6,h7⟩:=hh;refine⟨h2,by omega,?_⟩;have:Hl (Utf8.decode s k).1=false:=by unfold Hl;simp;omega
   rw[this,List.any_eq_false];intro x hx;rw[Bool.not_eq_true];apply Pv;obtain⟨i,hi,rfl⟩:=List.mem_iff_getElem.1 hx;rw[List.getElem_take];rw[qZ]at hi;have D:i<(a::r).length:=by omega
   have e:∀j (hj:j<(a::r).length),(a::r).getD j 0=(a::r)[j]:=fun j hj=>by rw[List.getD_eq_getElem?_getD,qO hj];rfl
   match i,hi,D with
   |0,_,_=>exact Nat.le_of_not_lt ha
   |1,_,h8=>rw[←e 1 h8];exact h5 (by omega)
   |2,_,h8=>rw[←e 2 h8];exact h6 (by omega)
   |3,_,h8=>rw[←e 3 h8];exact h7 (by omega)
   |i+4,h9,_=>omega
 | [],hl=>simp at hl;omega
end Go.Proofs.YtnjokdbblmlhhaaGreatDoor
namespace Go.Proofs.YtnjokdbblmlhhaaGreatDoor
set_option maxHeartbeats 4000000
set_option maxRecDepth 100000
namespace P18
def stands(c:UInt8)(pos:Bool):Bool:=
 (97≤c&&c≤122)||(65≤c&&c≤90)||(48≤c&&c≤57)||c==46||c==95||c==47||c==43||c==64||(c==45&&pos)
theorem Lr:∀n,n<256→∀pos,P18.stands (UInt8.ofNat n) pos =
  if 97≤bits BinOp.or IntKind.u8 ((UInt8.ofNat n).toNat:Int) 32∧bits BinOp.or IntKind.u8 ((UInt8.ofNat n).toNat:Int) 32≤122∧65≤((UInt8.ofNat n).toNat:Int) then true
  else if 48≤((UInt8.ofNat n).toNat:Int)∧((UInt8.ofNat n).toNat:Int)≤57 then true
  else decide (0≤Lib.indexByte [46,95,47,43,64,45] (UInt8.ofNat n))&&(decide (Lib.indexByte [46,95,47,43,64,45] (UInt8.ofNat n)<5)||pos):=by decide +kernel
theorem stands_key(c:UInt8)(pos:Bool):P18.stands c pos =
  if 97≤bits BinOp.or IntKind.u8 (c.toNat:Int) 32∧bits BinOp.or IntKind.u8 (c.toNat:Int) 32≤122∧65≤(c.toNat:Int) then true
  else if 48≤(c.toNat:Int)∧(c.toNat:Int)≤57 then true
  else decide (0≤Lib.indexByte [46,95,47,43,64,45] c)&&(decide (Lib.indexByte [46,95,47,43,64,45] c<5)||pos):=
 D1 (p:=fun c=>∀pos,P18.stands c pos =
  if 97≤bits BinOp.or IntKind.u8 (c.toNat:Int) 32∧bits BinOp.or IntKind.u8 (c.toNat:Int) 32≤122∧65≤(c.toNat:Int) then true
  else if 48≤(c.toNat:Int)∧(c.toNat:Int)≤57 then true
  else decide (0≤Lib.indexByte [46,95,47,43,64,45] c)&&(decide (Lib.indexByte [46,95,47,43,64,45] c<5)||pos)) Lr c pos
def plainLen:Bool→List UInt8→Nat
 |_,[]=>0
 |pos,c::r=>if stands c pos then plainLen true r+1 else 0
theorem plainLen_drop{pos:Bool}{l:List UInt8}{k:Nat}(h:k<l.length) :
  plainLen pos (l.drop k)=if stands l[k] pos then plainLen true (l.drop (k+1))+1 else 0:=by
 rw[qL h];rfl
theorem plainLen_le(l:List UInt8)(pos:Bool):plainLen pos l≤l.length:=by
 induction l generalizing pos with
 |nil=>simp[plainLen]
 |cons c r ih=>simp only[plainLen];split<;>simp;exact ih true
def plain(l:List UInt8):Bool:=!l.isEmpty&&((plainLen false l:Int)==(l.length:Int))
def hexDigit(n:Nat):UInt8:=if n<10 then UInt8.ofNat (48+n) else UInt8.ofNat (87+n)
def word(c:UInt8):List UInt8:=
 if c=34∨c=92 then [c] else if c=10 then [110] else if c=9 then [116]
 else if c<32∨c=127 then [120,hexDigit (c.toNat / 16),hexDigit (c.toNat % 16)] else []
def Ph:ByteArray:=⟨#[48,49,50,51,52,53,54,55,56,57,97,98,99,100,101,102]⟩
theorem Of:∀n:Nat,n<256→(if n=34∨n=92 then (Utf8.encode (n:Int)).data.toList else if n=10 then [110] else if n=9 then [116] else if n<32∨n=127 then
  ((⟨#[120]⟩:ByteArray)++Ph.extract (n / 16) (n / 16+1)++Ph.extract (n % 16) (n % 16+1)).data.toList else [])=P18.word (UInt8.ofNat n):=by decide +kernel
theorem bytes_ext{a:ByteArray}{l:List UInt8}(h:a.data.toList=l):a=⟨l.toArray⟩:=by
 cases a;subst h;rfl
theorem word_ends(c:UInt8):(if c.toNat=34∨c.toNat=92 then Utf8.encode (c.toNat:Int) else if c.toNat=10 then ⟨#[110]⟩ else if c.toNat=9 then ⟨#[116]⟩ else if c.toNat<32∨c.toNat=127 then
  (⟨#[120]⟩:ByteArray)++Ph.extract (c.toNat / 16) (c.toNat / 16+1)++Ph.extract (c.toNat % 16) (c.toNat % 16+1) else ⟨#[]⟩)=⟨(P18.word c).toArray⟩:=by
 have h:=Of c.toNat c.toNat_lt;simp only[UInt8.ofNat_toNat]at h;rw[←h];apply bytes_ext
 repeat' split
 all_goals rfl
def cutQ:Nat→Bool→List UInt8→Option Nat
 |_,_,[]=>none
 |i,taken,c::r=>if ((i:Int)==0)=true then cutQ (i+1) taken r else if taken=true then cutQ (i+1) false r
  else if ((c.toNat:Int)==92)=true then cutQ (i+1) true r else if ((c.toNat:Int)==34)=true then some (i+1) else cutQ (i+1) taken r
theorem cutQ_drop{i:Nat}{t:Bool}{l:List UInt8}(h:i<l.length) :
  cutQ i t (l.drop i)=if ((i:Int)==0)=true then cutQ (i+1) t (l.drop (i+1)) else if t=true then cutQ (i+1) false (l.drop (i+1))
   else if ((l[i].toNat:Int)==92)=true then cutQ (i+1) true (l.drop (i+1)) else if ((l[i].toNat:Int)==34)=true then some (i+1) else cutQ (i+1) t (l.drop (i+1)):=by
 rw[qL h];rfl
def cut(l:List UInt8):Nat × Nat:=
 if Lib.hasPrefix l [34] then (match cutQ 0 false l with|some n=>(n,0)|none=>(0,3))
 else if ((plainLen false l:Int)==0)=true then (0,3) else (plainLen false l,0)
theorem Th:∀n,n<256→-1≤Lib.indexByte [48,49,50,51,52,53,54,55,56,57,97,98,99,100,101,102] (UInt8.ofNat n)∧Lib.indexByte [48,49,50,51,52,53,54,55,56,57,97,98,99,100,101,102] (UInt8.ofNat n)<16:=by decide +kernel
theorem idx_bd(c:UInt8):-1≤Lib.indexByte [48,49,50,51,52,53,54,55,56,57,97,98,99,100,101,102] c∧Lib.indexByte [48,49,50,51,52,53,54,55,56,57,97,98,99,100,101,102] c<16:=
 D1 (p:=fun c=>-1≤Lib.indexByte [48,49,50,51,52,53,54,55,56,57,97,98,99,100,101,102] c∧Lib.indexByte [48,49,50,51,52,53,54,55,56,57,97,98,99,100,101,102] c<16) Th c
def hexThree(a b c:UInt8):Int × Int:=
 if (a != 120)=true then (0,0)
 else if Lib.indexByte [48,49,50,51,52,53,54,55,56,57,97,98,99,100,101,102] b<0 then (0,0) else if Lib.indexByte [48,49,50,51,52,53,54,55,56,57,97,98,99,100,101,102] c<0 then (0,0)
 else if 127<Lib.indexByte [48,49,50,51,52,53,54,55,56,57,97,98,99,100,101,102] b*16+Lib.indexByte [48,49,50,51,52,53,54,55,56,57,97,98,99,100,101,102] c then (0,0)
 else (Lib.indexByte [48,49,50,51,52,53,54,55,56,57,97,98,99,100,101,102] b*16+Lib.indexByte [48,49,50,51,52,53,54,55,56,57,97,98,99,100,101,102] c,3)
def hexTail(l:List UInt8):Int × Int:=
 if l.length<3 then (0,0) else hexThree (l.getD 0 0) (l.getD 1 0) (l.getD 2 0)
def startsWord(l:List UInt8)(c:Nat):Bool:=!(word (UInt8.ofNat c)).isEmpty&&Lib.hasPrefix l (word (UInt8.ofNat c))
def behind(l:List UInt8):Int × Int:=
 match (List.range 128).find? (startsWord l)with
 |some c=>((c:Int),((word (UInt8.ofNat c)).length:Int))
 |none=>hexTail l
theorem range_drop{n k:Nat}(h:k<n):(List.range n).drop k=k::(List.range n).drop (k+1):=by
 rw[qL (by simpa using h)];simp
def quoteOne(c:UInt8):List UInt8:=if (word c).isEmpty=true then [c] else 92::word c
def quote(l:List UInt8):List UInt8:=34::(l.flatMap quoteOne++[34])
theorem quote_drop{l:List UInt8}{k:Nat}(h:k<l.length):(l.drop k).flatMap quoteOne=quoteOne l[k]++(l.drop (k+1)).flatMap quoteOne:=by
 rw[qL h];rfl
theorem word_len(c:UInt8):(word c).length≤3:=by
 unfold word;repeat' split
 all_goals simp
theorem quoteOne_len(c:UInt8):(quoteOne c).length≤4:=by
 have:=word_len c;unfold quoteOne;split
 ·simp
 ·simp;omega
end P18
end Go.Proofs.YtnjokdbblmlhhaaGreatDoor
namespace Go.Proofs.YtnjokdbblmlhhaaGreatDoor
set_option maxHeartbeats 4000000
set_option maxRecDepth 100000
namespace P18
theorem Mb(a b c:UInt8):0≤(hexThree a b c).1∧(hexThree a b c).1<256∧0≤(hexThree a b c).2∧(hexThree a b c).2≤3:=by
 unfold hexThree;have:=idx_bd b;have:=idx_bd c
 repeat' split
 all_goals simp
 all_goals omega
theorem Qn(l:List UInt8):0≤(behind l).1∧(behind l).1<256∧0≤(behind l).2∧(behind l).2≤3:=by
 unfold behind;split
 ·rename_i c hc
  have h1:=List.mem_of_find?_eq_some hc;have h2:=word_len (UInt8.ofNat c);simp at h1;simp only;omega
 ·unfold hexTail;split
  ·simp
  ·exact Mb _ _ _
theorem behind_nat(l:List UInt8):∃(c:UInt8) (n:Nat),behind l=((c.toNat:Int),(n:Int))∧n≤3:=by
 obtain⟨h1,h2,h3,h4⟩:=Qn l;refine⟨UInt8.ofNat (behind l).1.toNat,(behind l).2.toNat,?_,by omega⟩;apply Prod.ext
 ·simp;omega
 ·simp;omega
def within(l:List UInt8):Option (List UInt8):=
 match l with
 | []=>some []
 |c::r=>if (c.toNat:Int)<32∨((c.toNat:Int)==127)=true then none
  else if ((c.toNat:Int)==92)=true then (if ((behind r).2==0)=true then none else (within (r.drop (behind r).2.toNat)).map (UInt8.ofNat (behind r).1.toNat :: ·))
  else (within r).map (c :: ·)
termination_by l.length
decreasing_by
 all_goals simp
 all_goals omega
theorem within_nil:within []=some []:=by unfold within;simp only
theorem within_cons(c:UInt8)(r:List UInt8):within (c::r)=if (c.toNat:Int)<32∨((c.toNat:Int)==127)=true then none
  else if ((c.toNat:Int)==92)=true then (if ((behind r).2==0)=true then none else (within (r.drop (behind r).2.toNat)).map (UInt8.ofNat (behind r).1.toNat :: ·))
  else (within r).map (c :: ·):=by conv=>lhs;unfold within
theorem within_drop{l:List UInt8}{k:Nat}(h:k<l.length):within (l.drop k)=within (l[k]::l.drop (k+1)):=by rw[qL h]
end P18
end Go.Proofs.YtnjokdbblmlhhaaGreatDoor
namespace Go.Proofs.YtnjokdbblmlhhaaGreatDoor
set_option maxHeartbeats 4000000
set_option maxRecDepth 100000
theorem Vv(l:List UInt8):(⟨l.toArray⟩:ByteArray).data.toList=l:=by simp
namespace P18
theorem cutQ_bd(l:List UInt8):∀(i:Nat) (t:Bool) (n:Nat),cutQ i t l=some n→2≤n∧n≤i+l.length:=by
 induction l with
 |nil=>intro i t n h;simp[cutQ]at h
 |cons c r ih=>
  intro i t n h;simp only[cutQ]at h;split at h
  ·have:=ih _ _ _ h;simp;omega
  ·split at h
   ·have:=ih _ _ _ h;simp;omega
   ·split at h
    ·have:=ih _ _ _ h;simp;omega
    ·split at h
     ·rename_i h0 _ _ _
      simp at h h0;simp;omega
     ·have:=ih _ _ _ h;simp;omega
theorem cut_ok(l:List UInt8)(h:(cut l).2=0)(hq:Lib.hasPrefix l [34]=true):2≤(cut l).1∧(cut l).1≤l.length:=by
 unfold cut at h ⊢;rw[if_pos hq]at h ⊢;cases hc:cutQ 0 false l with
 |none=>rw[hc]at h;simp at h
 |some n=>have:=cutQ_bd l 0 false n hc;simpa using this
def chk(t:List UInt8):List UInt8 × Int:=if (P03.check t 4096 != 0)=true then ([],P03.check t 4096) else (t,0)
def readF(n c:Nat)(l:List UInt8):List UInt8 × Int:=
 if ((c:Int) != 0)=true∨((n:Int) != (l.length:Int))=true then ([],3)
 else if ((((l.getD 0 0).toNat:Int))==34)=true then (match within ((l.drop 1).take (n-2))with|none=>([],3)|some b=>chk b)
 else chk l
def read(l:List UInt8):List UInt8 × Int:=readF (cut l).1 (cut l).2 l
theorem readF_bad{n c:Nat}{l:List UInt8}(h:c≠0∨n≠l.length):readF n c l=([],3):=by
 unfold readF;rw[if_pos];simp;omega
theorem readF_plain{l:List UInt8}(h:(l.getD 0 0).toNat≠34):readF l.length 0 l=chk l:=by
 unfold readF;rw[if_neg (by simp),if_neg (by simp only[beq_iff_eq];omega)]
theorem readF_none{l:List UInt8}(h:(l.getD 0 0).toNat=34)(hw:within ((l.drop 1).take (l.length-2))=none):readF l.length 0 l=([],3):=by
 unfold readF;rw[if_neg (by simp),if_pos (by simp only[beq_iff_eq];omega),hw]
theorem readF_some{l b:List UInt8}(h:(l.getD 0 0).toNat=34)(hw:within ((l.drop 1).take (l.length-2))=some b):readF l.length 0 l=chk b:=by
 unfold readF;rw[if_neg (by simp),if_pos (by simp only[beq_iff_eq];omega),hw]
theorem cut_pos(l:List UInt8)(h:(cut l).2=0):0<l.length:=by
 cases l with
 |nil=>simp[cut,Lib.hasPrefix,plainLen]at h
 |cons _ _=>simp
def put(l:List UInt8):List UInt8:=if plain l=true then l else quote l
theorem within_len{l:List UInt8}:∀{b:List UInt8},within l=some b→b.length≤l.length:=by
 induction hn:l.length using Nat.strongRecOn generalizing l with
 |_ n ih=>
  intro b h;cases l with
  |nil=>rw[within_nil]at h;simp at h;subst h;simp
  |cons c r=>
   rw[within_cons]at h;simp only[qE]at hn;split at h
   ·simp at h
   ·split at h
    ·split at h
     ·simp at h
     ·simp only[Option.map_eq_some_iff]at h;obtain⟨a,h1,rfl⟩:=h;have:=ih _ (by rw[←hn];simp;omega) rfl h1;simp at this ⊢;omega
    ·simp only[Option.map_eq_some_iff]at h;obtain⟨a,h1,rfl⟩:=h;have:=ih _ (by omega) rfl h1;simp;omega
theorem prefix_iff(l:List UInt8):Lib.hasPrefix l [34]=true↔0<l.length∧(l.getD 0 0).toNat=34:=by
 match l with
 | []=>simp[Lib.hasPrefix]
 |a::r=>simp[Lib.hasPrefix,←UInt8.toNat_inj];omega
end P18
end Go.Proofs.YtnjokdbblmlhhaaGreatDoor
namespace Go.Proofs.YtnjokdbblmlhhaaGreatDoor
set_option maxHeartbeats 4000000
set_option maxRecDepth 100000
abbrev Tk:=Nat × List UInt8 × Int × Int
namespace P19
def skip(l:List UInt8):Nat:=(l.takeWhile (· == 32)).length
theorem skip_drop:∀l:List UInt8,l.drop (skip l)=Fo l
 | []=>rfl
 |c::r=>by
  unfold skip Fo;by_cases h:c=32
  ·subst h;have ih:=skip_drop r;unfold skip Fo at ih;rw[List.takeWhile_cons_of_pos (by rfl),List.dropWhile_cons_of_pos (by rfl),qE,List.drop_succ_cons];exact ih
  ·rw[List.takeWhile_cons_of_neg (by simpa using h),List.dropWhile_cons_of_neg (by simpa using h)];rfl
theorem skip_le(l:List UInt8):skip l≤l.length:=by
 unfold skip;exact(List.takeWhile_prefix _).length_le
def signB(c:UInt8)(l:List UInt8):Bool:=match l with
 | []=>false
 |a::r=>a==c&&(match r with | []=>true|b::_=>b==32)
def value(n col:Int)(s:List UInt8):Tk × Int:=
 if s=[91,93] then ((6,[],n,col),0)
 else if s=[123,125] then ((7,[],n,col),0)
 else if (P18.cut s).2≠0∨(P18.cut s).1≠s.length then ((0,[],0,0),3)
 else ((5,(P18.read s).1,n,col),(P18.read s).2)
def line:Nat→Int→Int→List UInt8→List Tk × Int
 |0,_,_,_=>([],0)
 |f+1,n,col,s=>
  if signB 45 s then
   if 1+skip (s.drop 1)=s.length then ([(3,[],n,col)],0)
   else if (line f n (col+(1+skip (s.drop 1):Nat)) (s.drop (1+skip (s.drop 1)))).2≠0 then ([],(line f n (col+(1+skip (s.drop 1):Nat)) (s.drop (1+skip (s.drop 1)))).2)
   else ((3,[],n,col)::(line f n (col+(1+skip (s.drop 1):Nat)) (s.drop (1+skip (s.drop 1)))).1,0)
  else if s=[91,93] then ([(6,[],n,col)],0)
  else if s=[123,125] then ([(7,[],n,col)],0)
  else if (P18.cut s).2≠0 then ([],3)
  else if (P18.cut s).1<s.length∧signB 58 (s.drop (P18.cut s).1)=false then ([],3)
  else if (P18.read (s.take (P18.cut s).1)).2≠0 then ([],(P18.read (s.take (P18.cut s).1)).2)
  else if (P18.cut s).1=s.length then ([(5,(P18.read (s.take (P18.cut s).1)).1,n,col)],0)
  else if (P18.cut s).1+1+skip (s.drop ((P18.cut s).1+1))=s.length then ([(4,(P18.read (s.take (P18.cut s).1)).1,n,col)],0)
  else if (value n (col+((P18.cut s).1+1+skip (s.drop ((P18.cut s).1+1)):Nat)) (s.drop ((P18.cut s).1+1+skip (s.drop ((P18.cut s).1+1))))).2≠0 then
   ([],(value n (col+((P18.cut s).1+1+skip (s.drop ((P18.cut s).1+1)):Nat)) (s.drop ((P18.cut s).1+1+skip (s.drop ((P18.cut s).1+1))))).2)
  else ([(4,(P18.read (s.take (P18.cut s).1)).1,n,col),(value n (col+((P18.cut s).1+1+skip (s.drop ((P18.cut s).1+1)):Nat)) (s.drop ((P18.cut s).1+1+skip (s.drop ((P18.cut s).1+1))))).1],0)
def toks(n col:Int)(s:List UInt8):List Tk × Int:=line (s.length+1) n col s
theorem dash_shorter(s:List UInt8)(h:signB 45 s=true):(s.drop (1+skip (s.drop 1))).length<s.length:=by
 cases s with
 |nil=>cases h
 |cons a r=>simp;omega
abbrev Pt:=Int × Int × List UInt8
def next(value:Bool)(n col:Int)(s:List UInt8):Tk × Pt × Int:=
 if (signB 45 s && !value)=true then ((3,[],n,col),(n,col+(1+skip (s.drop 1):Nat),s.drop (1+skip (s.drop 1))),0)
 else if s=[91,93] then ((6,[],n,col),(0,0,[]),0)
 else if s=[123,125] then ((7,[],n,col),(0,0,[]),0)
 else if (P18.cut s).2≠0 then ((0,[],0,0),(n,col,s),(P18.cut s).2)
 else if s.drop (P18.cut s).1≠[]∧(signB 58 (s.drop (P18.cut s).1) && !value)=false then ((0,[],0,0),(n,col,s),3)
 else if (P18.read (s.take (P18.cut s).1)).2≠0 then ((0,[],0,0),(n,col,s),(P18.read (s.take (P18.cut s).1)).2)
 else if (signB 58 (s.drop (P18.cut s).1) && !value)=true then ((4,(P18.read (s.take (P18.cut s).1)).1,n,col),(n,col+((P18.cut s).1+1+skip (s.drop ((P18.cut s).1+1)):Nat),s.drop ((P18.cut s).1+1+skip (s.drop ((P18.cut s).1+1)))),0)
 else ((5,(P18.read (s.take (P18.cut s).1)).1,n,col),(0,0,[]),0)
end P19
end Go.Proofs.YtnjokdbblmlhhaaGreatDoor
namespace Go.Proofs.YtnjokdbblmlhhaaGreatDoor
set_option maxHeartbeats 4000000
set_option maxRecDepth 100000
theorem I5{s:ByteArray}(h:0<s.size):s.toList.isEmpty=false:=by
 rw[Lib.toList_data];have:=zP s;cases hl:s.data.toList with
 |nil=>rw[hl]at this;rw[this]at h;exact absurd h (by simp)
 |cons _ _=>rfl
namespace P18
def numLoop:Nat→List UInt8→Int × Int
 |n,[]=>((n:Int),0)
 |n,c::r=>if (c.toNat:Int)<48∨57<(c.toNat:Int) then (0,3) else numLoop (n*10+(c.toNat-48)) r
theorem numLoop_drop{n:Nat}{l:List UInt8}{k:Nat}(h:k<l.length) :
  numLoop n (l.drop k)=if (l[k].toNat:Int)<48∨57<(l[k].toNat:Int) then (0,3) else numLoop (n*10+(l[k].toNat-48)) (l.drop (k+1)):=by
 rw[qL h];rfl
def number(l:List UInt8):Int × Int:=
 if l.length=0∨9<l.length∨(1<l.length∧(l.getD 0 0).toNat=48) then (0,3) else numLoop 0 l
theorem pow_le{k:Nat}(h:k≤8):10 ^ k≤100000000:=Nat.pow_le_pow_right (by omega) h
end P18
end Go.Proofs.YtnjokdbblmlhhaaGreatDoor
namespace Go.Proofs.YtnjokdbblmlhhaaGreatDoor
set_option maxHeartbeats 4000000
set_option maxRecDepth 100000
namespace R18
open P18
theorem Ny:∀n,n<256→∀first:Bool,P18.stands (UInt8.ofNat n) (!first) =
  ((decide (97≤((UInt8.ofNat n).toNat:Int))&&decide (((UInt8.ofNat n).toNat:Int)≤122))||(decide (65≤((UInt8.ofNat n).toNat:Int))&&decide (((UInt8.ofNat n).toNat:Int)≤90))||(decide (48≤((UInt8.ofNat n).toNat:Int))&&decide (((UInt8.ofNat n).toNat:Int)≤57)) ||
   decide (((UInt8.ofNat n).toNat:Int)=46)||decide (((UInt8.ofNat n).toNat:Int)=95)||decide (((UInt8.ofNat n).toNat:Int)=47)||decide (((UInt8.ofNat n).toNat:Int)=43)||decide (((UInt8.ofNat n).toNat:Int)=64)||(decide (((UInt8.ofNat n).toNat:Int)=45) && !first)):=by decide +kernel
theorem plain_key(c:UInt8)(first:Bool):P18.stands c (!first) =
  ((decide (97≤(c.toNat:Int))&&decide ((c.toNat:Int)≤122))||(decide (65≤(c.toNat:Int))&&decide ((c.toNat:Int)≤90))||(decide (48≤(c.toNat:Int))&&decide ((c.toNat:Int)≤57)) ||
   decide ((c.toNat:Int)=46)||decide ((c.toNat:Int)=95)||decide ((c.toNat:Int)=47)||decide ((c.toNat:Int)=43)||decide ((c.toNat:Int)=64)||(decide ((c.toNat:Int)=45) && !first)):=by
 have h:=Ny c.toNat c.toNat_lt first
 simpa only[UInt8.ofNat_toNat]using h
def hex(c:UInt8):Int:=if 48≤(c.toNat:Int)∧(c.toNat:Int)≤57 then (c.toNat:Int)-48 else if 97≤(c.toNat:Int)∧(c.toNat:Int)≤102 then (c.toNat:Int)-97+10 else -1
theorem Qal:∀n,n<256→hex (UInt8.ofNat n)=Lib.indexByte [48,49,50,51,52,53,54,55,56,57,97,98,99,100,101,102] (UInt8.ofNat n):=by decide +kernel
theorem Ys(c:UInt8):hex c=Lib.indexByte [48,49,50,51,52,53,54,55,56,57,97,98,99,100,101,102] c:=D1 (p:=fun c=>hex c=Lib.indexByte [48,49,50,51,52,53,54,55,56,57,97,98,99,100,101,102] c) Qal c
theorem hex_bd(c:UInt8):-1≤hex c∧hex c<16:=by have:=idx_bd c;rw[←Ys]at this;exact this
def allPlain:Bool→List UInt8→Bool
 |_,[]=>true
 |pos,c::r=>if stands c pos=true then allPlain true r else false
theorem allPlain_drop{pos:Bool}{l:List UInt8}{k:Nat}(h:k<l.length):allPlain pos (l.drop k)=if stands l[k] pos=true then allPlain true (l.drop (k+1)) else false:=by
 rw[qL h];rfl
theorem Ll(l:List UInt8):∀pos,allPlain pos l=((plainLen pos l:Int)==(l.length:Int)):=by
 induction l with
 |nil=>intro pos;rfl
 |cons c r ih=>
  intro pos;simp only[allPlain,plainLen,qE];by_cases h:stands c pos=true
  ·rw[if_pos h,if_pos h,ih true];rw[Bool.eq_iff_iff];simp only[beq_iff_eq];omega
  ·rw[if_neg h,if_neg h];symm;rw[beq_eq_false_iff_ne];omega
theorem plain_eq(l:List UInt8):P18.plain l=(allPlain false l&&decide (0<(l.length:Int))):=by
 rw[Ll,P18.plain];cases l with
 |nil=>rfl
 |cons c r=>simp
end R18
end Go.Proofs.YtnjokdbblmlhhaaGreatDoor
namespace Go.Proofs.YtnjokdbblmlhhaaGreatDoor
set_option maxHeartbeats 4000000
set_option maxRecDepth 100000
namespace R18
open P18
theorem Y8{α:Type}{p:α→Bool}{l:List α}{a:α}(ha:a∈l)(hp:p a=true)(hu:∀x∈l,p x=true→x=a):l.find? p=some a:=by
 cases h:l.find? p with
 |none=>exact absurd hp (by have:=List.find?_eq_none.1 h a ha;exact this)
 |some b=>rw[hu b (List.mem_of_find?_eq_some h) (List.find?_some h)]
def Zq(c:Nat):Bool:=
 (word (UInt8.ofNat c)).isEmpty||(word (UInt8.ofNat c)==[34]&&c==34)||(word (UInt8.ofNat c)==[92]&&c==92)||(word (UInt8.ofNat c)==[110]&&c==10)||(word (UInt8.ofNat c)==[116]&&c==9) ||
 (word (UInt8.ofNat c)==[120,P18.hexDigit (c / 16),P18.hexDigit (c % 16)]&&hex (P18.hexDigit (c / 16))==((c / 16:Nat):Int)&&hex (P18.hexDigit (c % 16))==((c % 16:Nat):Int))
theorem Y2:∀c,c<128→Zq c=true:=by decide +kernel
theorem Wb{c:Nat}(h:c<128):word (UInt8.ofNat c)=[]∨(word (UInt8.ofNat c)=[34]∧c=34)∨(word (UInt8.ofNat c)=[92]∧c=92)∨(word (UInt8.ofNat c)=[110]∧c=10)∨(word (UInt8.ofNat c)=[116]∧c=9) ∨
  (word (UInt8.ofNat c)=[120,P18.hexDigit (c / 16),P18.hexDigit (c % 16)]∧hex (P18.hexDigit (c / 16))=((c / 16:Nat):Int)∧hex (P18.hexDigit (c % 16))=((c % 16:Nat):Int)):=by
 have:=Y2 c h;unfold Zq at this;simp only[Bool.or_eq_true,Bool.and_eq_true,beq_iff_eq,List.isEmpty_iff]at this;rcases this with((((h|h)|h)|h)|h)|h
 ·exact .inl h
 ·exact .inr (.inl h)
 ·exact .inr (.inr (.inl h))
 ·exact .inr (.inr (.inr (.inl h)))
 ·exact .inr (.inr (.inr (.inr (.inl h))))
 ·exact .inr (.inr (.inr (.inr (.inr ⟨h.1.1,h.1.2,h.2⟩))))
theorem Wn(l:List UInt8)(c:Nat):startsWord l c=true↔word (UInt8.ofNat c)≠[]∧word (UInt8.ofNat c) <+: l:=by
 unfold startsWord Lib.hasPrefix;simp[List.isPrefixOf_iff_prefix]
theorem Wh{d:UInt8}{r:List UInt8}{v:Nat}(hv:v<128)(hw:word (UInt8.ofNat v)=[d])(hd:d≠120):behind (d::r)=((v:Int),1):=by
 unfold behind;rw[Y8 (a:=v) (by simpa using hv) ((Wn _ _).2 ⟨by rw[hw];simp,by rw[hw];simp⟩) ?_]
 ·simp only[hw];rfl
 ·intro x hx hs;simp at hx;obtain⟨h1,h2⟩:=(Wn _ _).1 hs;rcases Wb hx with h|⟨h,e⟩|⟨h,e⟩|⟨h,e⟩|⟨h,e⟩|⟨h,e⟩
  ·exact absurd h h1
  all_goals rw[h]at h2
  all_goals rw[List.cons_prefix_cons]at h2
  all_goals obtain⟨I,_⟩:=h2
  ·subst I;rcases Wb hv with D|⟨D,G⟩|⟨D,G⟩|⟨D,G⟩|⟨D,G⟩|⟨D,G⟩;all_goals rw[hw]at D
   all_goals simp at D
   omega
  ·subst I;rcases Wb hv with D|⟨D,G⟩|⟨D,G⟩|⟨D,G⟩|⟨D,G⟩|⟨D,G⟩;all_goals rw[hw]at D
   all_goals simp at D
   omega
  ·subst I;rcases Wb hv with D|⟨D,G⟩|⟨D,G⟩|⟨D,G⟩|⟨D,G⟩|⟨D,G⟩;all_goals rw[hw]at D
   all_goals simp at D
   omega
  ·subst I;rcases Wb hv with D|⟨D,G⟩|⟨D,G⟩|⟨D,G⟩|⟨D,G⟩|⟨D,G⟩;all_goals rw[hw]at D
   all_goals simp at D
   omega
  ·exact absurd I.symm hd
theorem behind_34(r:List UInt8):behind (34::r)=(34,1):=Wh (v:=34) (by omega) (by decide) (by decide)
theorem behind_92(r:List UInt8):behind (92::r)=(92,1):=Wh (v:=92) (by omega) (by decide) (by decide)
theorem behind_110(r:List UInt8):behind (110::r)=(10,1):=Wh (v:=10) (by omega) (by decide) (by decide)
theorem behind_116(r:List UInt8):behind (116::r)=(9,1):=Wh (v:=9) (by omega) (by decide) (by decide)
theorem Xt{l:List UInt8}(h:∀x<128,startsWord l x=false):behind l=hexTail l:=by
 unfold behind;rw[List.find?_eq_none.2 (fun x hx=>by simp at hx;rw[h x hx];simp)]
theorem behind_other{d:UInt8}{r:List UInt8}(h1:d≠34)(h2:d≠92)(h3:d≠110)(h4:d≠116)(h5:d≠120):behind (d::r)=(0,0):=by
 rw[Xt (fun x hx=>?_)]
 ·unfold hexTail;split
  ·rfl
  ·unfold hexThree;rw[if_pos];simpa using h5
 ·rw[←Bool.not_eq_true,Wn];rintro⟨G,D⟩;rcases Wb hx with h|⟨h,e⟩|⟨h,e⟩|⟨h,e⟩|⟨h,e⟩|⟨h,e⟩
  ·exact G h
  all_goals rw[h]at D
  all_goals rw[List.cons_prefix_cons]at D
  ·exact h1 D.1.symm
  ·exact h2 D.1.symm
  ·exact h3 D.1.symm
  ·exact h4 D.1.symm
  ·exact h5 D.1.symm
theorem behind_x_short{r:List UInt8}(h:r.length<2):behind (120::r)=(0,0):=by
 rw[Xt (fun x hx=>?_)]
 ·unfold hexTail;rw[if_pos (by simp;omega)]
 ·rw[←Bool.not_eq_true,Wn];rintro⟨G,D⟩;rcases Wb hx with h|⟨h,e⟩|⟨h,e⟩|⟨h,e⟩|⟨h,e⟩|⟨h,e⟩
  ·exact G h
  all_goals rw[h]at D
  all_goals rw[List.cons_prefix_cons]at D
  ·exact absurd D.1 (by decide)
  ·exact absurd D.1 (by decide)
  ·exact absurd D.1 (by decide)
  ·exact absurd D.1 (by decide)
  ·have:=D.2.length_le;simp at this;omega
theorem Yj(a b:UInt8)(r:List UInt8):hexTail (120::a::b::r)=if hex a<0 then (0,0) else if hex b<0 then (0,0) else if 127<hex a*16+hex b then (0,0) else (hex a*16+hex b,3):=by
 unfold hexTail;rw[if_neg (by simp)];unfold hexThree;rw[if_neg (by simp),Ys,Ys];rfl
theorem behind_x(a b:UInt8)(r:List UInt8):behind (120::a::b::r)=if hex a<0∨7<hex a∨hex b<0 then (0,0) else (16*hex a+hex b,3):=by
 have ha:=hex_bd a;have hb:=hex_bd b
 have Q:hexTail (120::a::b::r)=if hex a<0∨7<hex a∨hex b<0 then (0,0) else (16*hex a+hex b,3):=by
  rw[Yj];by_cases h1:hex a<0
  ·rw[if_pos h1,if_pos (.inl h1)]
  ·by_cases h2:hex b<0
   ·rw[if_neg h1,if_pos h2,if_pos (.inr (.inr h2))]
   ·by_cases h3:7<hex a
    ·rw[if_neg h1,if_neg h2,if_pos (by omega),if_pos (.inr (.inl h3))]
    ·rw[if_neg h1,if_neg h2,if_neg (by omega),if_neg (by omega)]
     congr 1;omega
 rw[←Q];unfold behind;cases hf:(List.range 128).find? (startsWord (120::a::b::r))with
 |none=>rfl
 |some c=>
  simp only;have hc:=List.mem_of_find?_eq_some hf;have hs:=List.find?_some hf;simp at hc;obtain⟨J,D⟩:=(Wn _ _).1 hs;rcases Wb hc with h|⟨h,e⟩|⟨h,e⟩|⟨h,e⟩|⟨h,e⟩|⟨h,N,R⟩
  ·exact absurd h J
  all_goals rw[h]at D
  all_goals rw[List.cons_prefix_cons]at D
  ·exact absurd D.1 (by decide)
  ·exact absurd D.1 (by decide)
  ·exact absurd D.1 (by decide)
  ·exact absurd D.1 (by decide)
  ·obtain⟨_,G⟩:=D;rw[List.cons_prefix_cons]at G;obtain⟨rfl,I⟩:=G;rw[List.cons_prefix_cons]at I;obtain⟨rfl,_⟩:=I;rw[Yj,N,R,if_neg (by omega),if_neg (by omega),if_neg (by omega),h];apply Prod.ext
   ·simp only;omega
   ·rfl
theorem Zp:∀n,n<256→∀b:Bool,stands (UInt8.ofNat n) b=true→(UInt8.ofNat n).toNat<128:=by decide +kernel
theorem Z5{c:UInt8}{b:Bool}(h:stands c b=true):c.toNat<128:=
 D1 (p:=fun c=>∀b:Bool,stands c b=true→c.toNat<128) Zp c b h
theorem Yt{l:List UInt8}:∀{b:Bool},plainLen b l=l.length→∀c∈l,c.toNat<128:=by
 induction l with
 |nil=>intro b _ c hc;simp at hc
 |cons d r ih=>
  intro b h c hc;simp only[plainLen]at h;split at h
  ·rename_i hs
   rcases zN.1 hc with rfl|hc
   ·exact Z5 hs
   ·exact ih (by simpa using h) c hc
  ·simp at h
theorem Yr(f:Nat):∀(p:Nat) (l:List UInt8),(∀c∈l,c.toNat<128)→P03.firstBad f p l=-1:=by
 induction f with
 |zero=>intro p l _;rfl
 |succ f ih=>
  intro p l h;unfold P03.firstBad;split
  ·rfl
  ·rename_i hl
   cases l with
   |nil=>simp at hl
   |cons d r=>
    rw[P03.one_1 (b:=d) rfl (h d (by simp)),if_neg (by simp)];exact ih _ _ (fun c hc=>h c (List.mem_of_mem_drop hc))
theorem Y6{l:List UInt8}(h:P18.plain l=true)(n:Int):P03.check l n=if n<(l.length:Int) then 2 else 0:=by
 unfold P18.plain at h;simp only[Bool.and_eq_true,beq_iff_eq]at h;unfold P03.check P03.first
 rw[Yr _ _ _ (Yt (b:=false) (by omega))];rw[if_neg (show ¬(0:Int)≤-1 by omega)]
end R18
end Go.Proofs.YtnjokdbblmlhhaaGreatDoor
namespace Go.Proofs.YtnjokdbblmlhhaaGreatDoor
set_option maxHeartbeats 4000000
set_option maxRecDepth 100000
namespace R18
open P18
theorem cutQ_past{k:Nat}{t:Bool}{l:List UInt8}(h:l.length≤k):cutQ k t (l.drop k)=none:=by
 rw[qM h];rfl
theorem cutQ_esc{k:Nat}{l:List UInt8}(h:k<l.length)(h0:0<k)(D:l[k].toNat=92):cutQ k false (l.drop k)=cutQ (k+2) false (l.drop (k+2)):=by
 rw[cutQ_drop h,if_neg (by simp;omega),if_neg (by simp),if_pos (by simp;omega)];by_cases h1:k+1<l.length
 ·rw[cutQ_drop h1,if_neg (by simp;omega),if_pos rfl]
 ·rw[cutQ_past (by omega),cutQ_past (by omega)]
theorem cutQ_quote{k:Nat}{l:List UInt8}(h:k<l.length)(h0:0<k)(D:l[k].toNat=34):cutQ k false (l.drop k)=some (k+1):=by
 rw[cutQ_drop h,if_neg (by simp;omega),if_neg (by simp),if_neg (by simp;omega),if_pos (by simp;omega)]
theorem cutQ_else{k:Nat}{l:List UInt8}(h:k<l.length)(h0:0<k)(D:l[k].toNat≠34)(G:l[k].toNat≠92):cutQ k false (l.drop k)=cutQ (k+1) false (l.drop (k+1)):=by
 rw[cutQ_drop h,if_neg (by simp;omega),if_neg (by simp),if_neg (by simp;omega),if_neg (by simp;omega)]
theorem cutQ_0{l:List UInt8}(h:0<l.length):cutQ 0 false l=cutQ 1 false (l.drop 1):=by
 have:=cutQ_drop (i:=0) (t:=false) (l:=l) h;rw[List.drop_zero]at this;rw[this,if_pos (by simp)]
theorem cut_quoted{l:List UInt8}(h:Lib.hasPrefix l [34]=true):cut l=match cutQ 0 false l with|some n=>(n,0)|none=>(0,3):=by
 rw[cut,if_pos h];try (cases cutQ 0 false l<;>rfl)
def body(l:List UInt8):List UInt8:=(l.drop 1).take (l.length-2)
theorem body_drop{s:ByteArray}{k:Nat}(h1:1≤k)(h:k+1<s.size):(body s.data.toList).drop (k-1)=s[k]::(body s.data.toList).drop k:=by
 have hl:k<s.data.toList.length:=by rw[←zP];omega
 unfold body;rw[List.drop_take,zI,List.drop_take,zI];rw[show 1+(k-1)=k from by omega,qL hl,show s.data.toList.length-2-(k-1)=(s.data.toList.length-2-k)+1 from by rw[←zP];omega,List.take_succ_cons,show 1+k=k+1 from by omega];rfl
theorem body_len(s:ByteArray)(k:Nat):((body s.data.toList).drop k).length=s.size-2-k:=by
 unfold body;rw[qQ,qZ,qQ,←zP];omega
theorem body_end(s:ByteArray):(body s.data.toList).drop (s.size-1-1)=[]:=by
 apply qU;rw[body_len];omega
theorem within_ctrl{c:UInt8}{r:List UInt8}(h:(c.toNat:Int)<32∨((c.toNat:Int)==127)=true):within (c::r)=none:=by rw[within_cons,if_pos h]
theorem within_self{c:UInt8}{r:List UInt8}(h:¬((c.toNat:Int)<32∨((c.toNat:Int)==127)=true))(D:c.toNat≠92):within (c::r)=(within r).map (c :: ·):=by
 rw[within_cons,if_neg h,if_neg (by simp;omega)]
theorem within_esc0{c:UInt8}{r:List UInt8}(h:c.toNat=92)(hb:behind r=(0,0)):within (c::r)=none:=by
 rw[within_cons,if_neg (by simp;omega),if_pos (by simp;omega),hb];rfl
theorem within_esc{c:UInt8}{r:List UInt8}{v n:Nat}(h:c.toNat=92)(hb:behind r=((v:Int),(n:Int)))(hn:0<n):within (c::r)=(within (r.drop n)).map (UInt8.ofNat v :: ·):=by
 rw[within_cons,if_neg (by simp;omega),if_pos (by simp;omega),hb,if_neg (by simp;omega)];simp
theorem map_map(o:Option (List UInt8))(out:List UInt8)(c:UInt8):(o.map (c :: ·)).map (out ++ ·)=o.map ((out++[c]) ++ ·):=by
 cases o<;>simp
theorem Qae(b:Bool):stands 34 b=false:=by cases b<;>decide
theorem Zw{l:List UInt8}(h:P18.plain l=true):Lib.hasPrefix l [34]=false∧cut l=(l.length,0):=by
 unfold P18.plain at h;simp only[Bool.and_eq_true,beq_iff_eq]at h
 have hp:Lib.hasPrefix l [34]=false:=by
  cases l with
  |nil=>rfl
  |cons c r=>
   rw[←Bool.not_eq_true,prefix_iff];rintro⟨_,D⟩;have hc:c=34:=UInt8.toNat_inj.1 (by simpa using D);subst hc;have:=h.2;simp only[plainLen,Qae]at this;simp at this;omega
 refine⟨hp,?_⟩;unfold cut;rw[if_neg (by rw[hp];simp)];cases l with
 |nil=>simp at h
 |cons c r=>rw[if_neg (by simp only[beq_iff_eq];have:=h.2;simp at this ⊢;omega)];congr 1;omega
theorem read_plain{l:List UInt8}(h:P18.plain l=true):P18.read l=if 4096<(l.length:Int) then ([],2) else (l,0):=by
 obtain⟨h1,h2⟩:=Zw h
 have hq:(l.getD 0 0).toNat≠34:=by
  intro D;have hl:=cut_pos l (by rw[h2]);have:=(prefix_iff l).2 ⟨hl,D⟩;rw[h1]at this;cases this
 unfold P18.read;rw[h2,readF_plain hq];unfold chk;rw[Y6 h];split<;>simp
theorem read_unquoted{l:List UInt8}(h:P18.plain l=false)(hc:(cut l).2=0)(hn:(cut l).1=l.length):Lib.hasPrefix l [34]=true:=by
 rw[←Bool.not_eq_false];intro hp;unfold cut at hc hn;rw[if_neg (by rw[hp];simp)]at hc hn;split at hn
 ·rename_i h0
  rw[if_pos h0]at hc;simp at hc
 ·rename_i h0
  unfold P18.plain at h;simp only[beq_iff_eq]at h0;simp only at hn;rw[hn]at h;simp at h;subst h;simp[plainLen]at h0
theorem Qam:∀n,n<256→hex (UInt8.ofNat n)<0∨((UInt8.ofNat n).toNat≠34∧(UInt8.ofNat n).toNat≠92):=by decide +kernel
theorem hex_not(c:UInt8):hex c<0∨(c.toNat≠34∧c.toNat≠92):=D1 (p:=fun c=>hex c<0∨(c.toNat≠34∧c.toNat≠92)) Qam c
end R18
end Go.Proofs.YtnjokdbblmlhhaaGreatDoor
namespace Go.Proofs.YtnjokdbblmlhhaaGreatDoor
set_option maxHeartbeats 4000000
set_option maxRecDepth 100000
open Go.RowKit
theorem Qar(c:UInt8)(hc:c≠10):∀(l:List UInt8),(C7 (l++[c])).length=l.count 10+1
 | []=>by simp[C7,hc]
 |a::r=>by
  have ih:=Qar c hc r;show (C7 (a::(r++[c]))).length=_;unfold C7;by_cases ha:a=10
  ·subst ha;rw[if_pos rfl,qE,ih,List.count_cons_self]
  ·rw[if_neg ha,List.count_cons_of_ne (by simpa using ha)];cases hr:C7 (r++[c])with
   |nil=>rw[hr]at ih;simp at ih
   |cons x xs=>rw[hr]at ih;simpa using ih
theorem Yk(c:UInt8)(hc:c≠10)(l:List UInt8):(Bk (l++[c])).length=Lib.countByte l 10+1:=by
 unfold Bk;rw[qY,Qar c hc,Lib.countByte]
end Go.Proofs.YtnjokdbblmlhhaaGreatDoor
namespace Go.Proofs.YtnjokdbblmlhhaaGreatDoor
set_option maxHeartbeats 4000000
set_option maxRecDepth 100000
namespace R18
open P18
end R18
end Go.Proofs.YtnjokdbblmlhhaaGreatDoor
namespace Go.Proofs.YtnjokdbblmlhhaaGreatDoor
set_option maxHeartbeats 4000000
set_option maxRecDepth 100000
namespace P20
inductive T where
 |mk (kind:Nat) (text:List UInt8) (keys:List (List UInt8)) (kids:List T) (line:Int)
def hereL(last:Int):List Tk→Int
 | []=>last
 |t::_=>t.2.2.1
def kindOf:List Tk→Nat
 | []=>0
 |t::_=>t.1
inductive Out (α:Type) where
 |ok (a:α) (ts:List Tk)
 |bad (e line:Int)
mutual
inductive Val (last:Int):Nat→Nat→List Tk→Out T→Prop
 |deep {f lv:Nat} {ts:List Tk} (h:16<lv):Val last (f+1) lv ts (.bad 11 (hereL last ts))
 |none_ {f lv:Nat} (h:lv≤16):Val last (f+1) lv [] (.bad 3 last)
 |word {f lv:Nat} {x:List UInt8} {n c:Int} {r:List Tk} (h:lv≤16):Val last (f+1) lv ((5,x,n,c)::r) (.ok (.mk 1 x [] [] n) r)
 |noseq {f lv:Nat} {x:List UInt8} {n c:Int} {r:List Tk} (h:lv≤16):Val last (f+1) lv ((6,x,n,c)::r) (.ok (.mk 2 [] [] [] n) r)
 |nomap {f lv:Nat} {x:List UInt8} {n c:Int} {r:List Tk} (h:lv≤16):Val last (f+1) lv ((7,x,n,c)::r) (.ok (.mk 3 [] [] [] n) r)
 |seq {f lv:Nat} {x:List UInt8} {n c:Int} {r r':List Tk} {ds:List T} (h:lv≤16) (hs:Sq last f (lv+1) [] ((3,x,n,c)::r) (.ok ds r')):Val last (f+1) lv ((3,x,n,c)::r) (.ok (.mk 2 [] [] ds n) r')
 |seqbad {f lv:Nat} {x:List UInt8} {n c e l:Int} {r:List Tk} (h:lv≤16) (hs:Sq last f (lv+1) [] ((3,x,n,c)::r) (.bad e l)):Val last (f+1) lv ((3,x,n,c)::r) (.bad e l)
 |keys {f lv:Nat} {x:List UInt8} {n c:Int} {r r':List Tk} {ks:List (List UInt8)} {ds:List T} (h:lv≤16) (hs:Ky last f (lv+1) [] [] ((4,x,n,c)::r) (.ok (ks,ds) r')):Val last (f+1) lv ((4,x,n,c)::r) (.ok (.mk 3 [] ks ds n) r')
 |keysbad {f lv:Nat} {x:List UInt8} {n c e l:Int} {r:List Tk} (h:lv≤16) (hs:Ky last f (lv+1) [] [] ((4,x,n,c)::r) (.bad e l)):Val last (f+1) lv ((4,x,n,c)::r) (.bad e l)
 |form {f lv k:Nat} {x:List UInt8} {n c:Int} {r:List Tk} (h:lv≤16) (hk:k<3∨7<k):Val last (f+1) lv ((k,x,n,c)::r) (.bad 3 n)
inductive Wi (last:Int):Nat→Nat→Int→List Tk→Out T→Prop
 |empty {f lv:Nat} {line:Int} {ts:List Tk} (h:kindOf ts≠1):Wi last (f+1) lv line ts (.bad 17 line)
 |ok {f lv:Nat} {line n c n' c':Int} {x x':List UInt8} {ts r:List Tk} {d:T} (h:Val last f lv ts (.ok d ((2,x',n',c')::r))):Wi last (f+1) lv line ((1,x,n,c)::ts) (.ok d r)
 |form {f lv:Nat} {line n c:Int} {x:List UInt8} {ts r:List Tk} {d:T} (h:Val last f lv ts (.ok d r)) (hk:kindOf r≠2):Wi last (f+1) lv line ((1,x,n,c)::ts) (.bad 3 (hereL last r))
 |bad {f lv:Nat} {line n c e l:Int} {x:List UInt8} {ts:List Tk} (h:Val last f lv ts (.bad e l)):Wi last (f+1) lv line ((1,x,n,c)::ts) (.bad e l)
inductive Sq (last:Int):Nat→Nat→List T→List Tk→Out (List T)→Prop
 |done {f lv:Nat} {acc:List T} {ts:List Tk} (h:kindOf ts≠3):Sq last (f+1) lv acc ts (.ok acc ts)
 |next {f lv:Nat} {acc:List T} {x:List UInt8} {n c:Int} {r r':List Tk} {d:T} {o:Out (List T)} (h:Wi last f lv n r (.ok d r')) (hs:Sq last f lv (acc++[d]) r' o):Sq last (f+1) lv acc ((3,x,n,c)::r) o
 |bad {f lv:Nat} {acc:List T} {x:List UInt8} {n c e l:Int} {r:List Tk} (h:Wi last f lv n r (.bad e l)):Sq last (f+1) lv acc ((3,x,n,c)::r) (.bad e l)
inductive Ky (last:Int):Nat→Nat→List (List UInt8)→List T→List Tk→Out (List (List UInt8) × List T)→Prop
 |done {f lv:Nat} {ks:List (List UInt8)} {ds:List T} {ts:List Tk} (h:kindOf ts≠4):Ky last (f+1) lv ks ds ts (.ok (ks,ds) ts)
 |long {f lv:Nat} {ks:List (List UInt8)} {ds:List T} {x:List UInt8} {n c:Int} {r:List Tk} (h:64<x.length):Ky last (f+1) lv ks ds ((4,x,n,c)::r) (.bad 2 n)
 |twice {f lv:Nat} {ks:List (List UInt8)} {ds:List T} {x:List UInt8} {n c:Int} {r:List Tk} (h:x.length≤64) (hx:x∈ks):Ky last (f+1) lv ks ds ((4,x,n,c)::r) (.bad 6 n)
 |inl {f lv:Nat} {ks:List (List UInt8)} {ds:List T} {x:List UInt8} {n c:Int} {r r':List Tk} {d:T} {o:Out (List (List UInt8) × List T)} (h:x.length≤64) (hx:x∉ks) (hi:5≤kindOf r∧kindOf r≤7∧hereL last r=n) (hv:Val last f lv r (.ok d r')) (hs:Ky last f lv (ks++[x]) (ds++[d]) r' o):Ky last (f+1) lv ks ds ((4,x,n,c)::r) o
 |inlbad {f lv:Nat} {ks:List (List UInt8)} {ds:List T} {x:List UInt8} {n c e l:Int} {r:List Tk} (h:x.length≤64) (hx:x∉ks) (hi:5≤kindOf r∧kindOf r≤7∧hereL last r=n) (hv:Val last f lv r (.bad e l)):Ky last (f+1) lv ks ds ((4,x,n,c)::r) (.bad e l)
 |wi {f lv:Nat} {ks:List (List UInt8)} {ds:List T} {x:List UInt8} {n c:Int} {r r':List Tk} {d:T} {o:Out (List (List UInt8) × List T)} (h:x.length≤64) (hx:x∉ks) (hi:¬(5≤kindOf r∧kindOf r≤7∧hereL last r=n)) (hv:Wi last f lv n r (.ok d r')) (hs:Ky last f lv (ks++[x]) (ds++[d]) r' o):Ky last (f+1) lv ks ds ((4,x,n,c)::r) o
 |wibad {f lv:Nat} {ks:List (List UInt8)} {ds:List T} {x:List UInt8} {n c e l:Int} {r:List Tk} (h:x.length≤64) (hx:x∉ks) (hi:¬(5≤kindOf r∧kindOf r≤7∧hereL last r=n)) (hv:Wi last f lv n r (.bad e l)):Ky last (f+1) lv ks ds ((4,x,n,c)::r) (.bad e l)
end
theorem Rw(last:Int):∀f:Nat,(∀lv ts o,Val last f lv ts o→Val last (f+1) lv ts o)∧(∀lv l ts o,Wi last f lv l ts o→Wi last (f+1) lv l ts o) ∧
  (∀lv acc ts o,Sq last f lv acc ts o→Sq last (f+1) lv acc ts o)∧(∀lv ks ds ts o,Ky last f lv ks ds ts o→Ky last (f+1) lv ks ds ts o)
 |0=>⟨fun _ _ _ h=>(by cases h),fun _ _ _ _ h=>(by cases h),fun _ _ _ _ h=>(by cases h),fun _ _ _ _ _ h=>(by cases h)⟩
 |f+1=>by
  obtain⟨hv,hw,hs,hk⟩:=Rw last f;refine⟨fun lv ts o h=>?_,fun lv l ts o h=>?_,fun lv acc ts o h=>?_,fun lv ks ds ts o h=>?_⟩
  ·cases h with
   |deep h=>exact .deep h
   |none_ h=>exact .none_ h
   |word h=>exact .word h
   |noseq h=>exact .noseq h
   |nomap h=>exact .nomap h
   |seq h h2=>exact .seq h (hs _ _ _ _ h2)
   |seqbad h h2=>exact .seqbad h (hs _ _ _ _ h2)
   |keys h h2=>exact .keys h (hk _ _ _ _ _ h2)
   |keysbad h h2=>exact .keysbad h (hk _ _ _ _ _ h2)
   |form h h2=>exact .form h h2
  ·cases h with
   |empty h=>exact .empty h
   |ok h=>exact .ok (hv _ _ _ h)
   |form h h2=>exact .form (hv _ _ _ h) h2
   |bad h=>exact .bad (hv _ _ _ h)
  ·cases h with
   |done h=>exact .done h
   |next h h2=>exact .next (hw _ _ _ _ h) (hs _ _ _ _ h2)
   |bad h=>exact .bad (hw _ _ _ _ h)
  ·cases h with
   |done h=>exact .done h
   |long h=>exact .long h
   |twice h h2=>exact .twice h h2
   |inl h h2 h3 h4 h5=>exact .inl h h2 h3 (hv _ _ _ h4) (hk _ _ _ _ _ h5)
   |inlbad h h2 h3 h4=>exact .inlbad h h2 h3 (hv _ _ _ h4)
   |wi h h2 h3 h4 h5=>exact .wi h h2 h3 (hw _ _ _ _ h4) (hk _ _ _ _ _ h5)
   |wibad h h2 h3 h4=>exact .wibad h h2 h3 (hw _ _ _ _ h4)
theorem Val.up{last:Int}{f g lv:Nat}{ts:List Tk}{o:Out T}(h:Val last f lv ts o)(D:f≤g):Val last g lv ts o:=by
 obtain⟨k,rfl⟩:∃k,g=f+k:=⟨g-f,by omega⟩;clear D
 induction k with
 |zero=>exact h
 |succ k ih=>exact(Rw last (f+k)).1 _ _ _ ih
theorem Wi.up{last l:Int}{f g lv:Nat}{ts:List Tk}{o:Out T}(h:Wi last f lv l ts o)(D:f≤g):Wi last g lv l ts o:=by
 obtain⟨k,rfl⟩:∃k,g=f+k:=⟨g-f,by omega⟩;clear D
 induction k with
 |zero=>exact h
 |succ k ih=>exact(Rw last (f+k)).2.1 _ _ _ _ ih
theorem Sq.up{last:Int}{f g lv:Nat}{acc:List T}{ts:List Tk}{o:Out (List T)}(h:Sq last f lv acc ts o)(D:f≤g):Sq last g lv acc ts o:=by
 obtain⟨k,rfl⟩:∃k,g=f+k:=⟨g-f,by omega⟩;clear D
 induction k with
 |zero=>exact h
 |succ k ih=>exact(Rw last (f+k)).2.2.1 _ _ _ _ ih
theorem Ky.up{last:Int}{f g lv:Nat}{ks:List (List UInt8)}{ds:List T}{ts:List Tk}{o:Out (List (List UInt8) × List T)}(h:Ky last f lv ks ds ts o)(D:f≤g):Ky last g lv ks ds ts o:=by
 obtain⟨k,rfl⟩:∃k,g=f+k:=⟨g-f,by omega⟩;clear D
 induction k with
 |zero=>exact h
 |succ k ih=>exact(Rw last (f+k)).2.2.2 _ _ _ _ _ ih
def Out.left{α:Type}(n:Nat):Out α→Prop
 | .ok _ ts=>ts.length≤n
 | .bad _ _=>True
theorem total(last:Int):∀n:Nat,
  (∀lv ts,ts.length≤n→∃f o,Val last f lv ts o∧o.left (ts.length-1)) ∧
  (∀lv l ts,ts.length≤n→∃f o,Wi last f lv l ts o∧o.left (ts.length-1)) ∧
  (∀lv acc ts,ts.length≤n→∃f o,Sq last f lv acc ts o∧o.left (ts.length-(if kindOf ts=3 then 1 else 0))) ∧
  (∀lv ks ds ts,ts.length≤n→∃f o,Ky last f lv ks ds ts o∧o.left (ts.length-(if kindOf ts=4 then 1 else 0))):=by
 intro n
 induction n using Nat.strongRecOn with
 |ind n ih=>
  have S:∀lv l ts,ts.length≤n→∃f o,Wi last f lv l ts o∧o.left (ts.length-1):=by
   intro lv l ts hn;by_cases hk:kindOf ts=1
   ·cases ts with
    |nil=>cases hk
    |cons t r=>
     obtain⟨k,x,m,c⟩:=t;obtain rfl:k=1:=hk;simp only[qE]at hn;obtain⟨f,o,hv,hl⟩:=(ih r.length (by omega)).1 lv r (qJ _);cases o with
     |bad e l=>exact⟨f+1,_,.bad hv,trivial⟩
     |ok d r2=>
      simp only[Out.left]at hl;by_cases hk2:kindOf r2=2
      ·cases r2 with
       |nil=>cases hk2
       |cons t2 r3=>
        obtain⟨R,X,U,c2⟩:=t2;obtain rfl:R=2:=hk2;refine⟨f+1,_,.ok hv,?_⟩;simp only[Out.left,qE]at hl ⊢;omega
      ·exact⟨f+1,_,.form hv hk2,trivial⟩
   ·exact⟨1,_,.empty hk,trivial⟩
  have Q:∀lv acc ts,ts.length≤n→∃f o,Sq last f lv acc ts o∧o.left (ts.length-(if kindOf ts=3 then 1 else 0)):=by
   intro lv acc ts hn;by_cases hk:kindOf ts=3
   ·cases ts with
    |nil=>cases hk
    |cons t r=>
     obtain⟨k,x,m,c⟩:=t;obtain rfl:k=3:=hk;simp only[qE]at hn;obtain⟨f,o,hv,hl⟩:=(ih r.length (by omega)).2.1 lv m r (qJ _);cases o with
     |bad e l=>exact⟨f+1,_,.bad hv,trivial⟩
     |ok d r2=>
      simp only[Out.left]at hl;obtain⟨J,o2,hs,I⟩:=(ih r2.length (by omega)).2.2.1 lv (acc++[d]) r2 (qJ _);refine⟨f+J+1,o2,.next (hv.up (by omega)) (hs.up (by omega)),?_⟩;cases o2 with
      |bad e l=>trivial
      |ok ds r3=>
       simp only[Out.left,qE,kindOf,if_true]at I ⊢;omega
   ·refine⟨1,_,.done hk,?_⟩;simp only[Out.left];rw[if_neg hk];omega
  have N:∀lv ks ds ts,ts.length≤n→∃f o,Ky last f lv ks ds ts o∧o.left (ts.length-(if kindOf ts=4 then 1 else 0)):=by
   intro lv ks ds ts hn;by_cases hk:kindOf ts=4
   ·cases ts with
    |nil=>cases hk
    |cons t r=>
     obtain⟨k,x,m,c⟩:=t;obtain rfl:k=4:=hk;simp only[qE]at hn;rcases Nat.lt_or_ge 64 x.length with G|G
     ·exact⟨1,_,.long G,trivial⟩
     by_cases hx:x∈ks
     ·exact⟨1,_,.twice G hx,trivial⟩
     by_cases hi:5≤kindOf r∧kindOf r≤7∧hereL last r=m
     ·obtain⟨f,o,hv,hl⟩:=(ih r.length (by omega)).1 lv r (qJ _);cases o with
      |bad e l=>exact⟨f+1,_,.inlbad G hx hi hv,trivial⟩
      |ok d r2=>
       simp only[Out.left]at hl;obtain⟨J,o2,hs,I⟩:=(ih r2.length (by omega)).2.2.2 lv (ks++[x]) (ds++[d]) r2 (qJ _);refine⟨f+J+1,o2,.inl G hx hi (hv.up (by omega)) (hs.up (by omega)),?_⟩;cases o2 with
       |bad e l=>trivial
       |ok p r3=>
        simp only[Out.left,qE,kindOf,if_true]at I ⊢;omega
     ·obtain⟨f,o,hv,hl⟩:=(ih r.length (by omega)).2.1 lv m r (qJ _);cases o with
      |bad e l=>exact⟨f+1,_,.wibad G hx hi hv,trivial⟩
      |ok d r2=>
       simp only[Out.left]at hl;obtain⟨J,o2,hs,I⟩:=(ih r2.length (by omega)).2.2.2 lv (ks++[x]) (ds++[d]) r2 (qJ _);refine⟨f+J+1,o2,.wi G hx hi (hv.up (by omega)) (hs.up (by omega)),?_⟩;cases o2 with
       |bad e l=>trivial
       |ok p r3=>
        simp only[Out.left,qE,kindOf,if_true]at I ⊢;omega
   ·refine⟨1,_,.done hk,?_⟩;simp only[Out.left];rw[if_neg hk];omega
  refine⟨fun lv ts hn=>?_,S,Q,N⟩;rcases Nat.lt_or_ge 16 lv with D|D
  ·exact⟨1,_,.deep D,trivial⟩
  cases ts with
  |nil=>exact⟨1,_,.none_ D,trivial⟩
  |cons t r=>
   obtain⟨k,x,m,c⟩:=t;by_cases h5:k=5
   ·subst h5;exact⟨1,_,.word D,by simp[Out.left]⟩
   by_cases h6:k=6
   ·subst h6;exact⟨1,_,.noseq D,by simp[Out.left]⟩
   by_cases h7:k=7
   ·subst h7;exact⟨1,_,.nomap D,by simp[Out.left]⟩
   by_cases h3:k=3
   ·subst h3;obtain⟨f,o,hs,hl⟩:=Q (lv+1) [] _ hn;cases o with
    |bad e l=>exact⟨f+1,_,.seqbad D hs,trivial⟩
    |ok ds r2=>exact⟨f+1,_,.seq D hs,hl⟩
   by_cases h4:k=4
   ·subst h4;obtain⟨f,o,hs,hl⟩:=N (lv+1) [] [] _ hn;cases o with
    |bad e l=>exact⟨f+1,_,.keysbad D hs,trivial⟩
    |ok p r2=>
     obtain⟨ks,ds⟩:=p;exact⟨f+1,_,.keys D hs,hl⟩
   ·exact⟨1,_,.form D (by omega),trivial⟩
inductive Rd (last:Int) (f:Nat) (ts:List Tk):Except (Int × Int) T→Prop
 |ok {d:T} (h:Val last f 1 ts (.ok d [])):Rd last f ts (.ok d)
 |left {d:T} {t:Tk} {r:List Tk} (h:Val last f 1 ts (.ok d (t::r))):Rd last f ts (.error (3,t.2.2.1))
 |bad {e l:Int} (h:Val last f 1 ts (.bad e l)):Rd last f ts (.error (e,l))
theorem Ky.rest{last:Int}{f lv:Nat}{ks:List (List UInt8)}{ds:List T}{x:List UInt8}{n c:Int}{r:List Tk}{o:Out (List (List UInt8) × List T)}(h:Ky last f lv ks ds ((4,x,n,c)::r) o)(hx:x.length≤64)(D:x∉ks) :
    ∃g,f=g+1 ∧
      (((5≤kindOf r∧kindOf r≤7∧hereL last r=n)∧((∃d r',Val last g lv r (.ok d r')∧Ky last g lv (ks++[x]) (ds++[d]) r' o)∨(∃e l,Val last g lv r (.bad e l)∧o=.bad e l))) ∨
       (¬(5≤kindOf r∧kindOf r≤7∧hereL last r=n)∧((∃d r',Wi last g lv n r (.ok d r')∧Ky last g lv (ks++[x]) (ds++[d]) r' o)∨(∃e l,Wi last g lv n r (.bad e l)∧o=.bad e l)))):=by
  cases h with
  |done h=>exact absurd rfl h
  |long h=>omega
  |twice h h2=>exact absurd h2 D
  |inl h h2 h3 h4 h5=>exact⟨_,rfl,.inl ⟨h3,.inl ⟨_,_,h4,h5⟩⟩⟩
  |inlbad h h2 h3 h4=>exact⟨_,rfl,.inl ⟨h3,.inr ⟨_,_,h4,rfl⟩⟩⟩
  |wi h h2 h3 h4 h5=>exact⟨_,rfl,.inr ⟨h3,.inl ⟨_,_,h4,h5⟩⟩⟩
  |wibad h h2 h3 h4=>exact⟨_,rfl,.inr ⟨h3,.inr ⟨_,_,h4,rfl⟩⟩⟩
theorem Ky.way{last:Int}{f lv:Nat}{ks:List (List UInt8)}{ds:List T}{ts:List Tk}{o:Out (List (List UInt8) × List T)}(h:Ky last f lv ks ds ts o) :
  (kindOf ts≠4∧o=.ok (ks,ds) ts)∨∃x n c r,ts=(4,x,n,c)::r∧((64<x.length∧o=.bad 2 n)∨(x.length≤64∧x∈ks∧o=.bad 6 n)∨(x.length≤64∧x∉ks)):=by
 cases h with
 |done h=>exact .inl ⟨h,rfl⟩
 |long h=>exact .inr ⟨_,_,_,_,rfl,.inl ⟨h,rfl⟩⟩
 |twice h h2=>exact .inr ⟨_,_,_,_,rfl,.inr (.inl ⟨h,h2,rfl⟩)⟩
 |inl h h2 h3 h4 h5=>exact .inr ⟨_,_,_,_,rfl,.inr (.inr ⟨h,h2⟩)⟩
 |inlbad h h2 h3 h4=>exact .inr ⟨_,_,_,_,rfl,.inr (.inr ⟨h,h2⟩)⟩
 |wi h h2 h3 h4 h5=>exact .inr ⟨_,_,_,_,rfl,.inr (.inr ⟨h,h2⟩)⟩
 |wibad h h2 h3 h4=>exact .inr ⟨_,_,_,_,rfl,.inr (.inr ⟨h,h2⟩)⟩
theorem Rd.total(last:Int)(ts:List Tk):∃f o,Rd last f ts o:=by
 obtain⟨f,o,h,_⟩:=(P20.total last ts.length).1 1 ts (qJ _);cases o with
 |bad e l=>exact⟨f,_,.bad h⟩
 |ok d r=>
  cases r with
  |nil=>exact⟨f,_,.ok h⟩
  |cons t r=>exact⟨f,_,.left h⟩
theorem less(last:Int):∀f:Nat,(∀lv ts d r,Val last f lv ts (.ok d r)→r.length<ts.length)∧(∀lv l ts d r,Wi last f lv l ts (.ok d r)→r.length<ts.length) ∧
  (∀lv acc ts d r,Sq last f lv acc ts (.ok d r)→r.length≤ts.length∧(kindOf ts=3→r.length<ts.length))∧(∀lv ks ds ts d r,Ky last f lv ks ds ts (.ok d r)→r.length≤ts.length∧(kindOf ts=4→r.length<ts.length))
 |0=>⟨fun _ _ _ _ h=>(by cases h),fun _ _ _ _ _ h=>(by cases h),fun _ _ _ _ _ h=>(by cases h),fun _ _ _ _ _ _ h=>(by cases h)⟩
 |f+1=>by
  obtain⟨hv,hw,hs,hk⟩:=less last f;refine⟨fun lv ts d r h=>?_,fun lv l ts d r h=>?_,fun lv acc ts d r h=>?_,fun lv ks ds ts d r h=>?_⟩
  ·cases h with
   |word h=>simp
   |noseq h=>simp
   |nomap h=>simp
   |seq h h2=>exact(hs _ _ _ _ _ h2).2 rfl
   |keys h h2=>exact(hk _ _ _ _ _ _ h2).2 rfl
  ·cases h with
   |ok h=>have:=hv _ _ _ _ h;simp at this ⊢;omega
  ·cases h with
   |done h=>exact⟨qJ _,fun e=>absurd e h⟩
   |next h h2=>have h3:=hw _ _ _ _ _ h;have h4:=(hs _ _ _ _ _ h2).1;simp;omega
  ·cases h with
   |done h=>exact⟨qJ _,fun e=>absurd e h⟩
   |inl h h2 h3 h4 h5=>have h6:=hv _ _ _ _ h4;have h7:=(hk _ _ _ _ _ _ h5).1;simp;omega
   |wi h h2 h3 h4 h5=>have h6:=hw _ _ _ _ _ h4;have h7:=(hk _ _ _ _ _ _ h5).1;simp;omega
theorem keys_short(last:Int):∀(f lv:Nat) (ks ks':List (List UInt8)) (ds ds':List T) (ts r:List Tk),Ky last f lv ks ds ts (.ok (ks',ds') r)→(∀x∈ks,x.length≤64)→∀x∈ks',x.length≤64
 |0,lv,ks,ks',ds,ds',ts,r,h,hk=>by cases h
 |f+1,lv,ks,ks',ds,ds',ts,r,h,hk=>by
  have G:∀x:List UInt8,x.length≤64→∀y∈ks++[x],y.length≤64:=fun x hx y D=>by
   rcases zE.1 D with D|D
   ·exact hk y D
   ·rw[zO.1 D];exact hx
  cases h with
  |done h=>exact hk
  |inl h h2 h3 h4 h5=>exact keys_short last f lv _ ks' _ ds' _ r h5 (G _ h)
  |wi h h2 h3 h4 h5=>exact keys_short last f lv _ ks' _ ds' _ r h5 (G _ h)
mutual
def T.same:T→T→Bool
 | .mk k t ks ds _,.mk k' t' ks' ds' _=>k==k'&&(t==t'&&(ks==ks'&&sameL ds ds'))
def sameL:List T→List T→Bool
 | [],[]=>true
 |d::ds,e::es=>d.same e&&sameL ds es
 | [],_::_=>false
 |_::_,[]=>false
end
theorem sameL_len:∀{ds es:List T},sameL ds es=true→ds.length=es.length
 | [],[],_=>rfl
 |d::ds,e::es,h=>by
  simp only[sameL,Bool.and_eq_true]at h;simp[sameL_len h.2]
 | [],_::_,h=>by simp[sameL]at h
 |_::_,[],h=>by simp[sameL]at h
mutual
theorem T.same_refl:∀d:T,d.same d=true
 | .mk k t ks ds l=>by simp[T.same,Jg ds]
theorem Jg:∀ds:List T,sameL ds ds=true
 | []=>rfl
 |d::ds=>by simp[sameL,T.same_refl d,Jg ds]
end
def T.kind:T→Nat | .mk k _ _ _ _=>k
def T.text:T→List UInt8 | .mk _ t _ _ _=>t
def T.keys:T→List (List UInt8) | .mk _ _ ks _ _=>ks
def T.kids:T→List T | .mk _ _ _ ds _=>ds
def T.line:T→Int | .mk _ _ _ _ l=>l
end P20
end Go.Proofs.YtnjokdbblmlhhaaGreatDoor
namespace Go.Proofs.YtnjokdbblmlhhaaGreatDoor
set_option maxHeartbeats 4000000
set_option maxRecDepth 100000
namespace P20
mutual
def T.size:Nat→T→Nat × Nat
 |lv,.mk k t ks ds l=>if lv=0 then (0,0) else ((sizeL (lv-1) ds).1+1,(sizeL (lv-1) ds).2+1)
def sizeL:Nat→List T→Nat × Nat
 |lv,[]=>(0,0)
 |lv,d::ds=>(max (d.size lv).1 (sizeL lv ds).1,(d.size lv).2+(sizeL lv ds).2)
end
mutual
def T.pre(most:Nat):Nat→T→List (Nat × T)
 |lv,.mk k t ks ds l=>if most<lv then [] else (lv,.mk k t ks ds l)::preL most (lv+1) ds
def preL(most:Nat):Nat→List T→List (Nat × T)
 |lv,[]=>[]
 |lv,d::ds=>d.pre most lv++preL most lv ds
end
theorem Ha(l:List Nat):∀a:Nat,l.foldl max a=max a (l.foldl max 0):=by
 induction l with
 |nil=>intro a;simp
 |cons x l ih=>intro a;simp only[List.foldl_cons];rw[ih (max a x),ih (max 0 x)];omega
mutual
theorem T.pre_size(most:Nat):∀(d:T) (lv:Nat),lv≤most+1→(d.pre most lv).length=(d.size (most+1-lv)).2∧((d.pre most lv).map (·.1)).foldl max 0=(if lv≤most then (d.size (most+1-lv)).1+lv-1 else 0)
 | .mk k t ks ds l,lv,h=>by
  have ih:=J8 most ds (lv+1);unfold T.pre T.size;by_cases D:most<lv
  ·rw[if_pos D,if_pos (by omega),if_neg (by omega)];simp
  ·rw[if_neg D,if_neg (by omega),if_pos (by omega)];obtain⟨h1,h2⟩:=ih (by omega);have e:most+1-lv-1=most+1-(lv+1):=by omega
   rw[e];refine⟨by simp[h1],?_⟩;simp only[List.map_cons,List.foldl_cons];rw[Ha,h2];split<;>omega
theorem J8(most:Nat):∀(ds:List T) (lv:Nat),lv≤most+1→(preL most lv ds).length=(sizeL (most+1-lv) ds).2∧((preL most lv ds).map (·.1)).foldl max 0=(if (sizeL (most+1-lv) ds).1=0 then 0 else (sizeL (most+1-lv) ds).1+lv-1)
 | [],lv,h=>by simp[preL,sizeL]
 |d::ds,lv,h=>by
  obtain⟨h1,h2⟩:=T.pre_size most d lv h;obtain⟨h3,h4⟩:=J8 most ds lv h;unfold preL sizeL;refine⟨by simp[h1,h3],?_⟩;rw[List.map_append,List.foldl_append,Ha,h2,h4]
  have hz:¬lv≤most→(d.size (most+1-lv)).1=0∧(sizeL (most+1-lv) ds).1=0:=by
   intro hn;have e:most+1-lv=0:=by omega
   rw[e];refine⟨by cases d;simp[T.size],?_⟩;clear h1 h2 h3 h4
   induction ds with
   |nil=>rfl
   |cons a b ih=>unfold sizeL;simp only;rw[ih];cases a;simp[T.size]
  have hp:lv≤most→0<(d.size (most+1-lv)).1:=by
   intro hp;cases d;unfold T.size;rw[if_neg (by omega)];exact Nat.succ_pos _
  by_cases D:lv≤most
  ·have:=hp D;simp only[D,if_true];split<;>split<;>omega
  ·obtain⟨G,I⟩:=hz D;simp[D,G,I]
end
theorem depth_size(d:T):((d.pre 18 1).map (·.1)).foldl max 0=(d.size 18).1:=by
 have:=(T.pre_size 18 d 1 (by omega)).2;simpa using this
def keysE:List (List UInt8)→List (List UInt8)→Int
 |_,[]=>0
 |seen,k::ks=>if P03.check k 64≠0 then P03.check k 64 else if k∈seen then 6 else keysE (seen++[k]) ks
def oddB(k:Nat)(t:List UInt8)(D nd:Nat):Bool:=
 if k=1 then decide (0<D+nd) else if k=2 then (!t.isEmpty)||decide (0<D) else (!t.isEmpty)||decide (D≠nd)
def nodeE(lv:Nat):T→Int
 | .mk k t ks ds _=>if 16<lv then 11 else if k<1∨3<k then 7 else if oddB k t ks.length ds.length=true then 3 else if P03.check t 4096≠0 then P03.check t 4096 else keysE [] ks
def firstE:List (Nat × T)→Int
 | []=>0
 |x::r=>if nodeE x.1 x.2≠0 then nodeE x.1 x.2 else firstE r
theorem firstE_append(a b:List (Nat × T)):firstE (a++b)=if firstE a≠0 then firstE a else firstE b:=by
 induction a with
 |nil=>simp[firstE]
 |cons x r ih=>
  simp only[zJ,firstE,ih];by_cases h:nodeE x.1 x.2=0
  ·simp[h]
  ·simp[h]
mutual
def T.check:Nat→T→Int
 |lv,.mk k t ks ds l=>if nodeE lv (.mk k t ks ds l)≠0 then nodeE lv (.mk k t ks ds l) else checkL (lv+1) ds
def checkL:Nat→List T→Int
 |lv,[]=>0
 |lv,d::ds=>if d.check lv≠0 then d.check lv else checkL lv ds
end
mutual
theorem T.check_pre:∀(d:T) (lv:Nat),lv≤17→firstE (d.pre 17 lv)=d.check lv
 | .mk k t ks ds l,lv,h=>by
  unfold T.pre T.check;rw[if_neg (by omega)];simp only[firstE];by_cases hl:lv=17
  ·have D:nodeE lv (.mk k t ks ds l)=11:=by simp only[nodeE];rw[if_pos (by omega)]
   rw[D];rfl
  ·rw[Jk ds (lv+1) (by omega)]
theorem Jk:∀(ds:List T) (lv:Nat),lv≤17→firstE (preL 17 lv ds)=checkL lv ds
 | [],lv,h=>rfl
 |d::ds,lv,h=>by
  unfold preL checkL;rw[firstE_append,T.check_pre d lv h,Jk ds lv h]
end
def leaf(k:Nat)(t:List UInt8):List UInt8:=if k=2 then [91,93] else if k=3 then [123,125] else P18.put t
mutual
def T.write:List UInt8→List UInt8→T→List UInt8
 |first,ahead,.mk k t ks ds l=>if ds.isEmpty=true then first++leaf k t++[10] else Xs k first ahead ks ds
def Xs:Nat→List UInt8→List UInt8→List (List UInt8)→List T→List UInt8
  |_,_,_,_,[]=>[]
  |k,first,ahead,ks,d::ds=>
    (if k=2 then d.write (first++[45,32]) (ahead++[32,32])
     else if d.kids.isEmpty=true then d.write (first++P18.put (ks.headD [])++[58]++[32]) []
     else first++P18.put (ks.headD [])++[58]++[10]++d.write (ahead++[32,32]) (ahead++[32,32]))++Xs k ahead ahead ks.tail ds
end
end P20
end Go.Proofs.YtnjokdbblmlhhaaGreatDoor
