import Derived.Test.YtefokfbgpfcbkaaGreatM33sZ
set_option maxRecDepth 100000
set_option maxHeartbeats 8000000
set_option linter.unusedVariables false
set_option linter.unusedSimpArgs false
namespace Go.Proofs.YtefokfbgpfcbkaaGreat
open Go.RowKit
theorem Mw:∀{ns:List (List UInt8)} {x:List UInt8} {i:Nat},ns[i]?=some x→x∉ns.take i→P28.idx ns x=some i
 | [],x,i,h,_=>by simp at h
 |n::ns,x,0,h,_=>by
  simp only[zF,zK]at h;simp[P28.idx,h]
 |n::ns,x,i+1,h,h0=>by
  rw[List.take_succ_cons,zW,not_or]at h0;unfold P28.idx;rw[if_neg (fun e=>h0.1 e.symm),Mw (by simpa using h) h0.2];rfl
theorem Kj(d:Af)(x:List UInt8)(w:World)(aE:d.In w)(hl:d.steps.length≤1000000):Calls Tryz.prog 118 #[d.val,.string ⟨x.toArray⟩] w fun e w'=>e=.returned (.int .i64 (Hn (P28.idx (d.steps.map Ai.name) x)))∧Below w.heap.size w w':=by
 obtain⟨H,hH⟩:=qeX w.heap.size;rw[hH];obtain⟨W1,J,aB,g0,aM⟩:=As w (Be d) H hH;have Z:d.In W1:=aE.below (by rw[hH];exact aB);obtain⟨nm,tx,sa,sc,ss⟩:=d;obtain⟨N,hN⟩:=qeX ss.length;unfold Be at J g0;unfold Af.val;simp only[hN]at J g0 hl ⊢;obtain⟨aH,I⟩:∃R,Hn (P28.idx (ss.map Ai.name) x)=R:=⟨_,rfl⟩;rw[I];obtain⟨⟨k0,_⟩,⟨k1,_⟩,⟨k2,_⟩⟩:=Ag g0;have aI:=Ab Z;have aJ:=Ab J;have aG:=Ab aB;have HR:=Ab I;have HN:=Ab hN;clear Z J aB I hN g0 aE;go_enter Tryz.func118,Tryz.ntmps118
 go_upto_region 1 with fail
 try rw[hH]
 rw[Aa aJ];go_wp2
 go_loopg [5] N (fun g s5 wx=>∃i:Nat,i+g=N∧s5=.int .i64 i∧W1=wx∧Hid (x∉(ss.map Ai.name).take i))
 case atStart=>exact⟨0,by omega,by go_num,rfl,Ab (by simp)⟩
 case round=>
  obtain⟨i,aK,rfl,hw,HX⟩:=hrel;subst hw;cases gk with
  |zero=>
   have e1:(N:Int)≤(i:Int):=by omega
   have j1:decide ((i:Int)<(N:Int))=false:=by simp;omega
   have e:aH=-1:=by
    have h1:=Aa HX;rw[List.take_of_length_le (by rw[qX,Aa HN];omega)]at h1;rw[←Aa HR,P28.idx_none.2 h1];rfl
   subst e;go_wp2;go_ret;exact⟨rfl,Aa aG⟩
  |succ g'=>
   have aN:(i:Int)<(N:Int):=by omega
   have hkj:IntKind.i64.wrap ((i:Int)+1)=(i:Int)+1:=qG _ (by omega);obtain⟨s,hs⟩:=Ap (Aa HN) (show i<N by omega);obtain⟨⟨b,o,aD,aC⟩,_⟩:=(Aa aI).steps i s hs;simp only at aD;subst aD;have c0:=(Ar aC).1.1;obtain⟨n,hn⟩:=qeX s.name;rw[hn]at c0;have hg:(ss.map Ai.name)[i]?=some n:=by rw[zJ,hs,←hn];rfl
   have HG:=Ab hg;clear aC hs hn hg;by_cases aA:n=x
   ·subst aA;have e:aH=(i:Int):=by rw[←Aa HR,Mw (Aa HG) (Aa HX)];rfl
    subst e;go_wp2;go_ret;exact⟨rfl,Aa aG⟩
   ·have aL:(n==x)=false:=by simpa using aA
    go_wp2;go_roundg g'
    case measure=>omega
    case rel=>
     refine⟨i+1,by omega,by go_num,rfl,Ab ?_⟩;rw[List.take_add_one,Aa HG];intro hm;rcases zG.1 hm with hm|hm
     ·exact Aa HX hm
     ·simp at hm;exact aA hm.symm
theorem Tb(a:Option Addr)(c:Nat)(l:List (List UInt8))(x:List UInt8)(w:World)(h:Ft w a l)(hl:l.length≤1000000) :
  Calls Tryz.prog 153 #[.slice a l.length c,.string ⟨x.toArray⟩] w fun e w'=>e=.returned (.bool (decide (x∈l)))∧w'=w:=by
 obtain⟨N,hN⟩:=qeX l.length;obtain⟨J,Z⟩:∃R,decide (x∈l)=R:=⟨_,rfl⟩;rw[hN]at hl ⊢;rw[Z];have HH:=Ab h;have HN:=Ab hN;have HR:=Ab Z;clear h hN Z;go_enter Tryz.func153,Tryz.ntmps153
 go_wp2
 go_loopg [5] N (fun g s5 wx=>∃i:Nat,i+g=N∧s5=.int .i64 i∧w=wx∧Hid (x∉l.take i))
 case atStart=>exact⟨0,by omega,by go_num,rfl,Ab (by simp)⟩
 case round=>
  obtain⟨i,aA,rfl,hw,HX⟩:=hrel;subst hw;cases gk with
  |zero=>
   have e1:(N:Int)≤(i:Int):=by omega
   have j1:decide ((i:Int)<(N:Int))=false:=by simp;omega
   have e:J=false:=by
    have h1:=Aa HX;rw[List.take_of_length_le (by rw[Aa HN];omega)]at h1;rw[←Aa HR];simpa using h1
   subst e;go_wp2;go_ret;exact⟨rfl,rfl⟩
  |succ g'=>
   have aC:(i:Int)<(N:Int):=by omega
   have hkj:IntKind.i64.wrap ((i:Int)+1)=(i:Int)+1:=qG _ (by omega);obtain⟨y,hy⟩:=Ap (Aa HN) (show i<N by omega);obtain⟨b,o,rfl,cj⟩:=Aa HH i y hy;have HY:=Ab hy;clear hy;by_cases I:y=x
   ·subst I
    have e:J=true:=by
     rw[←Aa HR];simpa using qN (Aa HY)
    subst e;go_wp2;go_ret;exact⟨rfl,rfl⟩
   ·have aB:(y==x)=false:=by simpa using I
    go_wp2;go_roundg g'
    case measure=>omega
    case rel=>
     refine⟨i+1,by omega,by go_num,rfl,Ab ?_⟩;rw[List.take_add_one,Aa HY];intro hm;rcases zG.1 hm with hm|hm
     ·exact Aa HX hm
     ·simp at hm;exact I hm.symm
theorem Es(s:List UInt8)(w:World)(h:s.length≤1000000):Calls Tryz.prog 88 #[.string ⟨s.toArray⟩] w fun e w'=>e=.returned (.bool (P28.right s))∧w'=w:=by
 have hp:=O0 ⟨s.toArray⟩ w (by simp[ByteArray.size];unfold maxLen;omega);have hsz:(ByteArray.mk s.toArray).size=s.length:=by simp[ByteArray.size]
 simp only[List.toList_toArray]at hp;have e:P28.right s=(P18.plain s&&decide (s.length≤64)):=rfl;cases hq:P18.plain s with
 |false=>
  rw[hq]at hp e;rw[e];have I:=Ab hp;clear hp e;go_enter Tryz.func88,Tryz.ntmps88
  go_wp2_with (go_at_call 131;refine(Aa I).mono ?_;rintro e w' ⟨rfl,rfl⟩)
  all_goals go_ret
  all_goals exact⟨Ao (by simp),rfl⟩
 |true=>
  rw[hq]at hp e;rw[e];have I:=Ab hp;clear hp e;go_enter Tryz.func88,Tryz.ntmps88
  go_wp2_with (go_at_call 131;refine(Aa I).mono ?_;rintro e w' ⟨rfl,rfl⟩)
  all_goals go_ret
  all_goals exact⟨Ao (by simp[hsz];omega),rfl⟩
open Go.RowKit
theorem Hr:∀x y:List UInt8,Op.bytesLess x y=P28.ltS x y
 | [],[]=>rfl
 | [],_::_=>rfl
 |_::_,[]=>rfl
 |a::x,b::y=>by
  unfold Op.bytesLess P28.ltS;rw[Hr x y];by_cases h1:a<b
  ·simp[h1]
  ·by_cases h2:b<a
   ·have I:a≠b:=fun e=>by rw[e]at h2;exact UInt8.lt_irrefl _ h2
    simp[h1,h2,I]
   ·have e:a=b:=UInt8.le_antisymm (UInt8.not_lt.1 h2) (UInt8.not_lt.1 h1);subst e;simp
theorem Ir(x y:P28.Note)(w:World):Calls Tryz.prog 156 #[.agg (Bq x).toArray,.agg (Bq y).toArray] w fun e w'=>e=.returned (.bool (P28.ltN x y))∧Below w.heap.size w w':=by
 obtain⟨a,b,s⟩:=x;obtain⟨c,d,t⟩:=y;obtain⟨H,Z⟩:=qeX w.heap.size;rw[Z];obtain⟨W1,aB,aA,g0,g1,aD⟩:=Dt w (.cells #[.int .i64 a,.int .i64 b,.string ⟨s.toArray⟩] 183) (.cells #[.int .i64 c,.int .i64 d,.string ⟨t.toArray⟩] 183) H Z;obtain⟨⟨x0,_⟩,⟨x1,_⟩,⟨x2,_⟩⟩:=Ag g0;obtain⟨⟨y0,_⟩,⟨y1,_⟩,⟨y2,_⟩⟩:=Ag g1;have J:=Ab aB;have I:=Ab aA;obtain⟨aE,hR⟩:∃R,P28.ltN (a,b,s) (c,d,t)=R:=⟨_,rfl⟩;rw[hR];unfold P28.ltN at hR;simp only at hR;have HR:=Ab hR;clear aB aA g0 g1 hR;unfold Bq;by_cases h1:a=c
 ·subst h1;by_cases h2:b=d
  ·subst h2;go_enter Tryz.func156,Tryz.ntmps156
   go_upto_region 1 with fail
   try rw[Z]
   rw[Aa J];go_wp2;go_ret;refine⟨Ao ?_,Aa I⟩;rw[←Aa HR,Hr];simp
  ·have aC:(b != d)=true:=by simpa using h2
   go_enter Tryz.func156,Tryz.ntmps156
   go_upto_region 1 with fail
   try rw[Z]
   rw[Aa J];go_wp2;go_ret;refine⟨Ao ?_,Aa I⟩;rw[←Aa HR];simp only[Int.lt_irrefl,if_false];by_cases h3:b<d
   ·simp[h3]
   ·have:d<b:=by omega
    simp[h3,this]
 ·have aG:(a != c)=true:=by simpa using h1
  go_enter Tryz.func156,Tryz.ntmps156
  go_upto_region 1 with fail
  try rw[Z]
  rw[Aa J];go_wp2;go_ret;refine⟨Ao ?_,Aa I⟩;rw[←Aa HR];by_cases h3:a<c
  ·simp[h3]
  ·have:c<a:=by omega
   simp[h3,this]
theorem Zt(k:Nat)(t:List UInt8)(ks:List (List UInt8))(ds:List P20.T)(l:Int):P28.noneB (.mk k t ks ds l)=(decide (k=0)&&(t.isEmpty&&(decide (ks.length=0)&&decide (ds.length=0)))):=by
 unfold P28.noneB P20.T.same;rw[Bool.eq_iff_iff];cases t<;>cases ks<;>cases ds<;>simp[P20.sameL]
theorem Us(n:Nd)(w:World):Calls Tryz.prog 158 #[n.val] w fun e w'=>e=.returned (.bool (P28.noneB n.bare))∧Below w.heap.size w w':=by
 obtain⟨k,t,ka,kc,ks,da,dc,ds,l⟩:=n;obtain⟨H,hH⟩:=qeX w.heap.size;rw[hH];obtain⟨KL,aA⟩:∃x,ks.length=x:=⟨_,rfl⟩;obtain⟨DL,Z⟩:∃x,ds.length=x:=⟨_,rfl⟩
 have he:P28.noneB (Nd.mk k t ka kc ks da dc ds l).bare=(decide (k=0)&&(t.isEmpty&&(decide (KL=0)&&decide (DL=0)))):=by
  rw[Nd.bare,Zt,aA,Cp,Z]
 rw[he];unfold Nd.val;simp only[Nd.kind,Nd.text,Nd.kV,Nd.dV,Nd.line,Nd.keys,Nd.kids,Nd.ka,Nd.kc,Nd.da,Nd.dc,aA,Z];obtain⟨W1,aC,aB,g0,aD⟩:=As w (.cells #[.int .u8 k,.string ⟨t.toArray⟩,.slice ka KL kc,.slice da DL dc,.int .i64 l] 61) H hH;have g1:=Al g0;have J:=Ab aC;have I:=Ab aB;clear aC aB g0 he aA Z;by_cases h1:k=0
 ·have E1:Hid (((k:Int)==0)=true):=Ab (by simp;omega);have H1:=Ab h1;clear h1;cases t with
  |nil=>
   by_cases h2:KL=0
   ·have E2:Hid (((KL:Int)==0)=true):=Ab (by simp;omega);have H2:=Ab h2;clear h2;go_enter Tryz.func158,Tryz.ntmps158
    go_upto_region 1 with fail
    try rw[hH]
    rw[Aa J];have e1:=Aa E1;have e2:=Aa E2;go_wp2;go_ret;exact⟨Ao (by rw[Aa H1,Aa H2];by_cases hd:DL=0<;>simp[hd]),Aa I⟩
   ·have e2:((KL:Int)==0)=false:=by simp;omega
    go_enter Tryz.func158,Tryz.ntmps158
    go_upto_region 1 with fail
    try rw[hH]
    rw[Aa J];have e1:=Aa E1;go_wp2;go_ret;exact⟨Ao (by simp[h2,Aa H1]),Aa I⟩
  |cons c r=>
   go_enter Tryz.func158,Tryz.ntmps158
   go_upto_region 1 with fail
   try rw[hH]
   rw[Aa J];have e1:=Aa E1;go_wp2;go_ret;exact⟨Ao (by simp),Aa I⟩
 ·have e1:((k:Int)==0)=false:=by simp;omega
  go_enter Tryz.func158,Tryz.ntmps158
  go_upto_region 1 with fail
  try rw[hH]
  rw[Aa J];go_wp2;go_ret;exact⟨Ao (by simp[h1]),Aa I⟩
open Go.RowKit
namespace P28
def insR(o:List Note)(x:Note):List Note:=if o[(o.takeWhile fun y=>ltN y x).length]?=some x then o else o.take (o.takeWhile fun y=>ltN y x).length++x::o.drop (o.takeWhile fun y=>ltN y x).length
def sortR(l:List Note):List Note:=l.foldl insR []
theorem Y2:∀{o:List Note} {x:Note} {k:Nat},(∀j y,j<k→o[j]?=some y→ltN y x=true)→k≤o.length→(∀y,o[k]?=some y→ltN y x=false)→(o.takeWhile fun y=>ltN y x).length=k
 | [],x,k,_,h,_=>by simp at h;simp[h]
 |y::o,x,0,_,_,h=>by
  have:=h y rfl;simp[List.takeWhile,this]
 |y::o,x,k+1,h1,h2,h3=>by
  have h:=h1 0 y (by omega) rfl;rw[List.takeWhile_cons,if_pos h,qE,Y2 (k:=k) (fun j z hj I=>h1 (j+1) z (by omega) (by simpa using I)) (by simpa using h2) (fun z I=>h3 z (by simpa using I))]
theorem insR_yes{o:List Note}{x:Note}{k:Nat}(h1:∀j y,j<k→o[j]?=some y→ltN y x=true)(h2:o[k]?=some x)(h3:ltN x x=false):insR o x=o:=by
 unfold insR;rw[Y2 h1 (Nat.le_of_lt (qI.1 h2).1) (fun y hy=>by rw[h2]at hy;cases hy;exact h3),if_pos h2]
theorem insR_no{o:List Note}{x:Note}{k:Nat}(h1:∀j y,j<k→o[j]?=some y→ltN y x=true)(hk:k≤o.length)(h2:∀y,o[k]?=some y→ltN y x=false∧y≠x):insR o x=o.take k++x::o.drop k:=by
 unfold insR;rw[Y2 h1 hk (fun y hy=>(h2 y hy).1),if_neg (fun e=>(h2 _ e).2 rfl)]
theorem Yc(o:List Note)(x:Note):(insR o x).length≤o.length+1:=by
 unfold insR;split
 ·omega
 ·rw[qH,qE,qY,List.length_drop];omega
theorem Ug(o:List Note)(x:Note):insR o x≠[]:=by
 unfold insR;split
 ·rename_i h
  intro e;rw[e]at h;simp at h
 ·simp
theorem foldl_len:∀(l o:List Note),(l.foldl insR o).length≤o.length+l.length
 | [],o=>by simp
 |x::l,o=>by
  rw[List.foldl_cons,qE];have:=foldl_len l (insR o x);have:=Yc o x;omega
theorem P1:∀(l o:List Note),o≠[]→l.foldl insR o≠[]
 | [],o,h=>h
 |x::l,o,h=>by rw[List.foldl_cons];exact P1 l _ (Ug o x)
theorem Ja(l:List Note):sortR l=[]↔l=[]:=by
 unfold sortR;cases l with
 |nil=>simp
 |cons x l=>rw[List.foldl_cons];exact⟨fun h=>absurd h (P1 l _ (Ug _ x)),fun h=>by cases h⟩
theorem sortR_len(l:List Note):(sortR l).length≤l.length:=by have:=foldl_len l [];unfold sortR;simpa using this
theorem Qe:∀s:Tx,ltS s s=false
 | []=>rfl
 |a::s=>by unfold ltS;simp[UInt8.lt_irrefl,Qe s]
theorem ltN_self(x:Note):ltN x x=false:=by
 obtain⟨a,b,s⟩:=x;unfold ltN;simp[Qe]
end P28
theorem Qan{Z xi J xe:Int}{yt I:List UInt8}(h:¬((Z,J,yt)=(xi,xe,I))){α:Type}{a b:α}[Decidable (Z=xi)][Decidable (J=xe)][Decidable (yt=I)]:(if Z=xi then if J=xe then if yt=I then a else b else b else b)=b:=by
 split
 ·split
  ·split
   ·rename_i h1 h2 h3;exact absurd (by rw[h1,h2,h3]) h
   ·rfl
  ·rfl
 ·rfl
theorem Iw(ns:List P28.Note)(v:Value)(w:World)(B:Nat)(h:A0 w B v ns)(hl:ns.length≤900000000) :
  Calls Tryz.prog 115 #[v] w fun e w'=>∃v',e=.returned v'∧A0 w' w.heap.size v' (P28.sortR ns)∧Below w.heap.size w w':=by
 obtain⟨a,c,rfl⟩:=h.form;have aT:=fun(g:Nat) (e:(Value.slice a ns.length c).ownBlock=some g)=>(h.lt e).2;obtain⟨H,hH⟩:=qeX w.heap.size;obtain⟨M,hM⟩:=qeX ns.length;rw[hM]at hl h aT ⊢;rw[hH]at aT ⊢;have cV:∀V,Below H w V→A0 V B (.slice a M c) ns:=fun V hb=>h.keep (fun g hg=>hb.block g (aT g hg))
 have cT:∀i,((ns.take i).foldl P28.insR []).length≤M:=fun i=>by
  have:=P28.foldl_len (ns.take i) [];rw[qY,hM]at this;simp at this;omega
 have bI:=Ab cV;have HM:=Ab hM;have dB:=Ab cT;have cL:=Ab hH;clear cV hM cT h aT;go_enter Tryz.func115,Tryz.ntmps115
 go_wp2
 go_loopg [3,4] M (fun g s3 s4 wx=>∃(i:Nat) (v:Value),i+g=M∧s4=.int .i64 i∧s3=v∧Hid (A0 wx H v ((ns.take i).foldl P28.insR []))∧Hid (Below H w wx))
 case atStart=>exact⟨0,_,by omega,by go_num,rfl,Ab (A0.nil _ _),Ab (qU _ _)⟩
 case round=>
  obtain⟨i,v,dG,rfl,rfl,HO,HB⟩:=hrel;cases gk with
  |zero=>
   have e1:(M:Int)≤(i:Int):=by omega
   have j1:decide ((i:Int)<(M:Int))=false:=by simp;omega
   have cX:ns.take i=ns:=List.take_of_length_le (by rw[Aa HM];omega);have hfin:=Aa HO;rw[cX]at hfin;have HF:=Ab hfin;clear hfin cX;go_wp2;go_ret;exact⟨_,rfl,Aa HF,Aa HB⟩
  |succ g'=>
   have dI:(i:Int)<(M:Int):=by omega
   have dN:IntKind.i64.wrap ((i:Int)+1)=(i:Int)+1:=qG _ (by omega);obtain⟨⟨xi,xe,xt⟩,hx⟩:=Ap (Aa HM) (show i<M by omega);have bC:(ns.take (i+1)).foldl P28.insR []=P28.insR ((ns.take i).foldl P28.insR []) (xi,xe,xt):=by rw[List.take_add_one,hx,List.foldl_append];rfl
   obtain⟨o,ho⟩:=qeX ((ns.take i).foldl P28.insR []);have cQ:=Aa dB i;have bU:=Aa HO;rw[ho]at bC cQ bU;obtain⟨N,hN⟩:=qeX o.length;obtain⟨va,vc,hv⟩:=bU.form;rw[hN]at cQ hv;subst hv;have HO:=Ab bU;obtain⟨K,hK⟩:=qeX wr.heap.size;have bZ:H≤K:=by have:=(Aa HB).size;rw[Aa cL]at this;omega
   obtain⟨gb,rfl,_⟩:=((Aa bI) wr (Aa HB)).get hx;have cJ:=Ab bC;have HX:=Ab hx;have HN:=Ab hN;have HK:=Ab hK;clear bU ho bC hx hN hK;go_wp2
   go_loopg [5] N (fun g2 s5 wy=>∃k:Nat,k+g2=N∧s5=.int .i64 k∧Hid (Below K wr wy)∧Hid (∀j y,j<k→o[j]?=some y→P28.ltN y (xi,xe,xt)=true))
   case atStart=>exact⟨0,by omega,by go_num,Ab (qU _ _),Ab (fun j y hj=>by omega)⟩
   case round=>
    obtain⟨k,dH,rfl,aW,bT⟩:=hrel;have cD:Below H w wr:=(Aa HB).trans ((Aa aW).mono bZ);obtain⟨dF,cM,x0,x1,x2⟩:=((Aa bI) wr cD).get (Aa HX);cases cM;have aP:=Ab ((Aa HO).keep (W':=wr) (fun g hg=>(Aa aW).block g (by have:=((Aa HO).lt hg).2;rw[←Aa HK];exact this)))
    have cK:(∃y,o[k]?=some y∧P28.ltN y (xi,xe,xt)=true)∨o[k]?=some (xi,xe,xt)∨(∃y,o[k]?=some y∧P28.ltN y (xi,xe,xt)=false∧y≠(xi,xe,xt))∨k=N:=by
     by_cases cF:k<N
     ·obtain⟨y,hy⟩:=Ap (Aa HN) cF;cases aJ:P28.ltN y (xi,xe,xt)with
      |true=>exact .inl ⟨y,hy,aJ⟩
      |false=>
       by_cases hyx:y=(xi,xe,xt)
       ·subst hyx;exact .inr (.inl hy)
       ·exact .inr (.inr (.inl ⟨y,hy,aJ,hyx⟩))
     ·exact .inr (.inr (.inr (by omega)))
    have cI:=Ab cD;clear cD;have aD:∀y,o[k]?=some y→k<N:=fun y hy=>by rw[←Aa HN];exact(qI.1 hy).1
    rcases cK with⟨⟨yi,ye,yt⟩,hy,aJ⟩|hy|⟨⟨yi,ye,yt⟩,hy,aJ,cS⟩|cF
    ·have j3:=aD _ hy;obtain⟨g2,rfl⟩:∃g2,gk=g2+1:=⟨gk-1,by omega⟩;have bW:(k:Int)<(N:Int):=by omega
     have dM:IntKind.i64.wrap ((k:Int)+1)=(k:Int)+1:=qG _ (by omega);have aH:=Aa aP;rw[←Aa HN]at aH;obtain⟨go,rfl,y0,y1,y2⟩:=aH.get hy;have HY:=Ab hy;have I:=fun V=>Ir (yi,ye,yt) (xi,xe,xt) V;rw[aJ]at I;simp only[Bq]at I;have aG:=Ab I;have cR:=Ab aJ;clear hy aH I aJ aD;go_wp2;refine Ak 13 (by kernel_rfl) (by kernel_rfl) (by kernel_rfl) (by kernel_rfl) (by kernel_rfl) ?_;simp only[List.take_succ_cons,List.take_zero,List.drop_succ_cons,List.drop_zero]
     repeat (go_big_quiet_step (fail))
     refine wpQuiet_nil ?_;rintro _ ⟨nq,rfl⟩;go_wp2_with (go_at_call 156;refine((Aa aG) _).mono ?_;rintro e w2 ⟨rfl,aL⟩)
     go_roundg g2
     case measure=>omega
     case rel=>
      refine⟨k+1,by omega,by go_num,Ab ((Aa aW).trans ((Ac (qU _ _)).trans (aL.mono (by have:=(Aa aW).size;rw[Aa HK]at this;simp;omega)))),Ab (fun j y hj cG=>?_)⟩;by_cases cY:j=k
      ·subst cY;rw[Aa HY]at cG;cases cG;exact Aa cR
      ·exact Aa bT j y (by omega) cG
    ·have j3:=aD _ hy;have bW:(k:Int)<(N:Int):=by omega
     have aH:=Aa aP;rw[←Aa HN]at aH;obtain⟨go,rfl,y0,y1,y2⟩:=aH.get hy;have I:=fun V=>Ir (xi,xe,xt) (xi,xe,xt) V;rw[P28.ltN_self]at I;simp only[Bq]at I;have aG:=Ab I;have aU:=Ab (P28.insR_yes (Aa bT) hy (P28.ltN_self _));clear aH I aD;have HY:=Ab hy;clear hy;go_wp2;refine Ak 13 (by kernel_rfl) (by kernel_rfl) (by kernel_rfl) (by kernel_rfl) (by kernel_rfl) ?_;simp only[List.take_succ_cons,List.take_zero,List.drop_succ_cons,List.drop_zero]
     repeat (go_big_quiet_step (fail))
     refine wpQuiet_nil ?_;rintro _ ⟨nq,rfl⟩;go_wp2_with (go_at_call 156;refine((Aa aG) _).mono ?_;rintro e w2 ⟨rfl,aL⟩)
     have aS:Below K wr w2:=(Ac (qU _ _)).trans (aL.mono (by have:=(Aa aW).size;rw[Aa HK]at this;simp;omega));have aN:=Ab ((Aa cI).trans (aS.mono bZ));have aK:=(Aa aP).keep (W':=w2) (fun g hg=>aL.block g ((Aa aP).lt hg).2);have cC:=Ab aK;rw[←Aa HN]at aK;obtain⟨dC,bE,z0,z1,z2⟩:=aK.get (Aa HY);cases bE;obtain⟨dD,bG,v0,v1,v2⟩:=((Aa bI) w2 (Aa aN)).get (Aa HX);cases bG;clear aK aS aL y0 y1 y2 x0 x1 x2;refine wp_region_quiet_lit (by kernel_rfl) (by kernel_rfl) ?_
     repeat (go_big_quiet_step (fail))
     refine wpQuiet_nil ?_;rintro _ ⟨bM,rfl⟩;go_wp2;go_roundg g'
     case measure=>omega
     case rel=>
      refine⟨i+1,_,by omega,by go_num,rfl,Ab ?_,Ab ((Aa aN).trans (Ac (qU _ _)))⟩;rw[Aa cJ,Aa aU];exact(Aa cC).keep (fun g hg=>rfl)
    case' inr.inr.inl=>
     have j3:=aD _ hy;have bW:(k:Int)<(N:Int):=by omega
     have aH:=Aa aP;rw[←Aa HN]at aH;obtain⟨go,rfl,y0,y1,y2⟩:=aH.get hy;have I:=fun V=>Ir (yi,ye,yt) (xi,xe,xt) V;rw[aJ]at I;simp only[Bq]at I;have aG:=Ab I;have dA:k≤N:=by omega
     have aU:=Ab (P28.insR_no (k:=k) (Aa bT) (by rw[Aa HN];omega) (fun y bL=>by rw[hy]at bL;cases bL;exact⟨aJ,cS⟩));have HY:=Ab hy;clear aH I aD hy;go_wp2;refine Ak 13 (by kernel_rfl) (by kernel_rfl) (by kernel_rfl) (by kernel_rfl) (by kernel_rfl) ?_;simp only[List.take_succ_cons,List.take_zero,List.drop_succ_cons,List.drop_zero]
     repeat (go_big_quiet_step (fail))
     refine wpQuiet_nil ?_;rintro _ ⟨nq,rfl⟩;go_wp2_with (go_at_call 156;refine((Aa aG) _).mono ?_;rintro e w2 ⟨rfl,aL⟩)
     have aS:Below K wr w2:=(Ac (qU _ _)).trans (aL.mono (by have:=(Aa aW).size;rw[Aa HK]at this;simp;omega));have aN:=Ab ((Aa cI).trans (aS.mono bZ));have aK:=(Aa aP).keep (W':=w2) (fun g hg=>aL.block g ((Aa aP).lt hg).2);have cC:=Ab aK;rw[←Aa HN]at aK;obtain⟨dC,bE,z0,z1,z2⟩:=aK.get (Aa HY);cases bE;obtain⟨dD,bG,v0,v1,v2⟩:=((Aa bI) w2 (Aa aN)).get (Aa HX);cases bG;clear aK aS aL y0 y1 y2 x0 x1 x2;refine wp_region_quiet_lit (by kernel_rfl) (by kernel_rfl) ?_
     repeat (go_big_quiet_step ((rw[Qan cS];exact⟨rfl,rfl⟩)))
     refine wpQuiet_nil ?_;rintro _ ⟨bM,rfl⟩;obtain⟨U,hU⟩:=qeX (w2.drewN bM);have bO:Hid (Below H w U):=Ab (by rw[←hU];exact(Aa aN).trans (Ac (qU _ _)));have bF:Hid (A0 U H (.slice (some ⟨go,0,none⟩) N vc) o):=Ab (by rw[←hU];exact(Aa cC).keep (fun g hg=>rfl));rw[hU];clear hU z0 z1 z2 v0 v1 v2;go_wp2
    case' inr.inr.inr=>
     have e2:(N:Int)≤(k:Int):=by omega
     have j2:decide ((k:Int)<(N:Int))=false:=by simp;omega
     have j3:¬k<N:=by omega
     have dA:k≤N:=by omega
     have aU:=Ab (P28.insR_no (k:=k) (Aa bT) (by rw[Aa HN];omega) (fun y bL=>absurd (aD y bL) (by omega)));clear aD cF;go_wp2;refine wp_region_quiet_lit (by kernel_rfl) (by kernel_rfl) ?_
     repeat (go_big_quiet_step (fail))
     refine wpQuiet_nil ?_;rintro _ ⟨nq,rfl⟩;go_wp2;refine wp_region_quiet_lit (by kernel_rfl) (by kernel_rfl) ?_
     repeat (go_big_quiet_step (fail))
     refine wpQuiet_nil ?_;rintro _ ⟨bM,rfl⟩;obtain⟨U,hU⟩:=qeX ((wr.drewN nq).drewN bM);have bO:Hid (Below H w U):=Ab (by rw[←hU];exact(Aa cI).trans (Ac (Ac (qU _ _))));have bF:Hid (A0 U H (.slice va N vc) o):=Ab (by rw[←hU];exact(Aa aP).keep (fun g hg=>rfl));rw[hU];clear hU x0 x1 x2;go_wp2
    all_goals (
     obtain⟨D,hD⟩:=qeX U.heap.size;have bY:H≤D:=by have:=(Aa bO).size;rw[Aa cL]at this;omega
     have HD:=Ab hD;clear hD
     go_loopg [6,7] k (fun g3 s6 s7 wz=>∃(j:Nat) (v6:Value),j+g3=k∧s7=.int .i64 j∧s6=v6∧Hid (A0 wz D v6 (o.take j))∧Hid (Below D U wz))
     case atStart=>exact⟨0,_,by omega,by go_num,rfl,Ab (A0.nil _ _),Ab (qU _ _)⟩
     case round=>
      obtain⟨j,v6,dJ,rfl,rfl,aC,aB⟩:=hrel;have bQ:D≤wr.heap.size:=by have:=(Aa aB).size;rw[Aa HD]at this;omega
      obtain⟨cZ,dE,bD⟩:=(Aa aC).form;have bX:(o.take j).length=j:=by rw[qY,Aa HN];omega
      rw[bX]at bD;subst bD;have aQ:=Ab bX;clear bX;cases gk with
      |zero=>
       have e3:(k:Int)≤(j:Int):=by omega
       have j4:decide ((j:Int)<(k:Int))=false:=by simp;omega
       obtain⟨dK,cP,x0,x1,x2⟩:=((Aa bI) wr ((Aa bO).trans ((Aa aB).mono bY))).get (Aa HX);cases cP;obtain⟨W1,aR,aE,gn,cO⟩:=As wr (.cells #[.int .i64 xi,.int .i64 xe,.string ⟨xt.toArray⟩] 183) wr.heap.size rfl;have aA:=Ab ((Aa aC).keep (W':=W1) (fun g hg=>aE.block g ((Aa aC).lt hg).2));have aI:=Ab ((Aa aB).trans (aE.mono bQ));have aO:D≤W1.heap.size:=by omega
       have bJ:=Ab aR;have bK:=Ab gn;clear aR gn aE aC aB;go_wp2_with (rw[Aa bJ];refine An (p:=(xi,xe,xt)) (by rfl) _ _ (by rfl) (by rfl) (Aa aA) wr.heap.size 1 (by rfl) (Aa bK) j (Aa aQ) (by omega) aO ?_;intro g2 bV w3 J Z aZ aM;have aY:=Ab J;have aX:=Ab ((Aa aI).grown Z aO (fun g hg=>((Aa aA).lt hg).1));clear J Z aZ aM)
       obtain rfl:j=k:=by omega
       go_loopg [6,8] (N-j) (fun g4 s6 s8 wq=>∃(q:Nat) (acc:List P28.Note) (v6:Value),q+g4=N∧s8=.int .i64 q∧s6=v6∧Hid (acc.length=q+1)∧Hid (A0 wq D v6 acc)∧Hid (acc++o.drop q=P28.insR o (xi,xe,xt))∧Hid (Below D U wq))
       case atStart=>exact⟨j,o.take j++[(xi,xe,xt)],_,by omega,by go_num,rfl,Ab (by rw[qH,Aa aQ];rfl),aY,Ab (by rw[Aa aU];simp),aX⟩
       case round=>
        clear aY aX aQ aI aA;obtain⟨q,acc,v6,dL,rfl,rfl,aQ,aC,cU,aB⟩:=hrel;have bQ:D≤wr.heap.size:=by have:=(Aa aB).size;rw[Aa HD]at this;omega
        obtain⟨cZ,dE,bD⟩:=(Aa aC).form;rw[Aa aQ]at bD;subst bD;cases gk with
        |zero=>
         have e3:(N:Int)≤(q:Int):=by omega
         have j4:decide ((q:Int)<(N:Int))=false:=by simp;omega
         have cA:=Aa cU;rw[List.drop_eq_nil_of_le (by rw[Aa HN];omega),List.append_nil]at cA;have cN:=Ab cA;clear cA;go_wp2;go_roundg g'
         case measure=>omega
         case rel=>exact⟨i+1,_,by omega,by go_num,rfl,Ab (by rw[Aa cJ,←Aa cN];exact(Aa aC).base bY),Ab ((Aa bO).trans ((Aa aB).mono bY))⟩
        |succ g4=>
         have cW:(q:Int)<(N:Int):=by omega
         have hkj:IntKind.i64.wrap ((q:Int)+1)=(q:Int)+1:=qG _ (by omega);obtain⟨⟨pi,pe,pt⟩,hp⟩:=Ap (Aa HN) (show q<N by omega);have hz:=(Aa bF).keep (W':=wr) (fun g hg=>(Aa aB).block g (by have:=((Aa bF).lt hg).2;rw[←Aa HD];exact this));rw[←Aa HN]at hz;obtain⟨g9,cB,c0,c1,c2⟩:=hz.get hp;cases cB;have cH:Hid ((acc++[(pi,pe,pt)])++o.drop (q+1)=P28.insR o (xi,xe,xt)):=Ab (by rw[←Aa cU,zH,List.singleton_append,qL (by rw[Aa HN];omega:q<o.length)];congr 2;exact((qI.1 hp).2).symm);clear hz hp;obtain⟨W1,aR,aE,gn,cO⟩:=As wr (.cells #[.int .i64 pi,.int .i64 pe,.string ⟨pt.toArray⟩] 183) wr.heap.size rfl;have aA:=Ab ((Aa aC).keep (W':=W1) (fun g hg=>aE.block g ((Aa aC).lt hg).2));have aI:=Ab ((Aa aB).trans (aE.mono bQ));have aO:D≤W1.heap.size:=by omega
         have bJ:=Ab aR;have bK:=Ab gn;clear aR gn aE aC aB;go_wp2_with (rw[Aa bJ];refine An (p:=(pi,pe,pt)) (by rfl) _ _ (by rfl) (by rfl) (Aa aA) wr.heap.size 1 (by rfl) (Aa bK) (q+1) (Aa aQ) (by omega) aO ?_;intro g2 bV w3 J Z aZ aM;have aY:=Ab J;have aX:=Ab ((Aa aI).grown Z aO (fun g hg=>((Aa aA).lt hg).1));clear J Z aZ aM)
         go_roundg g4
         case measure=>omega
         case rel=>exact⟨q+1,_,_,by omega,by go_num,rfl,Ab (by rw[qH,Aa aQ];rfl),aY,cH,aX⟩
      |succ g3=>
       have cW:(j:Int)<(k:Int):=by omega
       have hkj:IntKind.i64.wrap ((j:Int)+1)=(j:Int)+1:=qG _ (by omega);obtain⟨⟨pi,pe,pt⟩,hp⟩:=Ap (Aa HN) (show j<N by omega);have hz:=(Aa bF).keep (W':=wr) (fun g hg=>(Aa aB).block g (by have:=((Aa bF).lt hg).2;rw[←Aa HD];exact this));rw[←Aa HN]at hz;obtain⟨g9,cB,c0,c1,c2⟩:=hz.get hp;cases cB;have cH:Hid (o.take (j+1)=o.take j++[(pi,pe,pt)]):=Ab (by rw[List.take_add_one,hp];rfl);clear hz hp;obtain⟨W1,aR,aE,gn,cO⟩:=As wr (.cells #[.int .i64 pi,.int .i64 pe,.string ⟨pt.toArray⟩] 183) wr.heap.size rfl;have aA:=Ab ((Aa aC).keep (W':=W1) (fun g hg=>aE.block g ((Aa aC).lt hg).2));have aI:=Ab ((Aa aB).trans (aE.mono bQ));have aO:D≤W1.heap.size:=by omega
       have bJ:=Ab aR;have bK:=Ab gn;clear aR gn aE aC aB;go_wp2_with (rw[Aa bJ];refine An (p:=(pi,pe,pt)) (by rfl) _ _ (by rfl) (by rfl) (Aa aA) wr.heap.size 1 (by rfl) (Aa bK) j (Aa aQ) (by omega) aO ?_;intro g2 bV w3 J Z aZ aM;have aY:=Ab J;have aX:=Ab ((Aa aI).grown Z aO (fun g hg=>((Aa aA).lt hg).1));clear J Z aZ aM)
       go_roundg g3
       case measure=>omega
       case rel=>exact⟨j+1,_,by omega,by go_num,rfl,Ab (by rw[Aa cH];exact Aa aY),aX⟩)
open Go.RowKit
structure Bn (W:World) (B:Nat) (v:Value) (vs:List Value) (RS:List (List Nat)):Prop where
 own:W.ownsRow B 48 1 v vs.length vs
 len:vs.length=RS.length
 row:∀(i:Nat) u l,vs[i]?=some u→RS[i]?=some l→A5 W B u l
 apart:∀(i:Nat) u g,vs[i]?=some u→u.ownBlock=some g→v.ownBlock≠some g
theorem Bn.nil(W:World)(B:Nat):Bn W B (.slice none 0 0) [] []:=
 ⟨World.ownsRow_nil W B 48 1,rfl,fun i u l h=>by simp at h,fun i u g h=>by simp at h⟩
theorem Bn.at{W:World}{B:Nat}{v:Value}{vs:List Value}{RS:List (List Nat)}(h:Bn W B v vs RS){i:Nat}{u:Value}(hu:vs[i]?=some u):∃l,RS[i]?=some l∧A5 W B u l:=by
 have hl:i<RS.length:=by rw[←h.len];exact(qI.1 hu).1
 exact⟨_,qO hl,h.row i u _ hu (qO hl)⟩
theorem Bn.keep{W W':World}{B:Nat}{v:Value}{vs:List Value}{RS:List (List Nat)}(h:Bn W B v vs RS)(hk:∀g,g<W.heap.size→W'.heap[g]?=W.heap[g]?):Bn W' B v vs RS:=
 ⟨Du h.own (fun g hg=>hk g (Ax h.own g hg).2),h.len,fun i u l hu hl=>(h.row i u l hu hl).keep (fun g hg=>hk g ((h.row i u l hu hl).lt hg).2),h.apart⟩
theorem Bn.form{W:World}{B:Nat}{v:Value}{vs:List Value}{RS:List (List Nat)}(h:Bn W B v vs RS):∃a c,v=.slice a RS.length c:=by
 rcases h.own.2 with⟨rfl,h0⟩|⟨g,cap,I,rfl,_⟩
 ·exact⟨none,0,by rw[←h.len,h0]⟩
 ·exact⟨_,cap,by rw[←h.len]⟩
theorem Bn.base{W:World}{B J:Nat}{v:Value}{vs:List Value}{RS:List (List Nat)}(h:Bn W B v vs RS)(hB:J≤B):Bn W J v vs RS:=by
 refine⟨⟨h.own.1,?_⟩,h.len,fun i u l hu hl=>(h.row i u l hu hl).base hB,h.apart⟩;rcases h.own.2 with h|⟨g,cap,I,h1,h2,h3⟩
 ·exact .inl h
 ·exact .inr ⟨g,cap,I,h1,qK hB h2,h3⟩
theorem Bn.get{W:World}{B n c i:Nat}{a:Option Addr}{vs:List Value}{RS:List (List Nat)}{l:List Nat}(h:Bn W B (.slice a n c) vs RS)(hi:RS[i]?=some l) :
  ∃g I vc,a=some ⟨g,0,none⟩∧W.cell? ⟨g,i,none⟩=some (.slice I l.length vc)∧J4 W I l:=by
 have Z:i<vs.length:=by rw[h.len];exact(qI.1 hi).1
 have hu:vs[i]?=some vs[i]:=qO Z;obtain⟨I,vc,hv,_,_,J⟩:=(h.row i _ l hu hi).slice;rcases h.own.2 with⟨_,h0⟩|⟨g,cap,aA,e,hb,hh,hc,hm,hsz,aB⟩
 ·omega
 ·cases e;refine⟨g,I,vc,rfl,?_,J⟩;have h1:=hu;rw[hv,←aB,List.getElem?_take_of_lt (by omega)]at h1;have:=cell_of_row W g i aA 48 (0,0) hh;rw[this];simpa using h1
theorem Ly{w:World}{B:Nat}{v u:Value}{vs:List Value}{RS:List (List Nat)}{l:List Nat}{ops:Array Oper}{rest:List Oper}{o:Oper}{a:Act}{Q:Exit→Act→World→Prop}(aH:o.guard=none)(s x:Operand)
  (ho:o.op=.call { callee:=.builtin .append,args:=#[s,x],argTypes:=#[47,47] })
  (hs:a.eval s=v) (I:Bn w B v vs RS) (g cap:Nat) (hx:a.eval x=.slice (some ⟨g,0,none⟩) 1 cap) (aE:w.heap[g]?=some (.cells #[u] 48)) (hu:A5 w B u l) (aD:∀k,u.ownBlock=some k→v.ownBlock≠some k)
  (m:Nat) (hm:RS.length=m) (aN:m+1≤1000000000000) (hB:B≤w.heap.size)
  (h:∀g' J w',Bn w' B (.slice (some ⟨g',0,none⟩) (m+1) J) (vs++[u]) (RS++[l])→w.grownBy w' v.ownBlock→(v.ownBlock=some g'∨g'=w.heap.size)→g'<w'.heap.size→wpList Tryz.prog ops Q rest (a.put o.dst (.slice (some ⟨g',0,none⟩) (m+1) J)) w') :
  wpList Tryz.prog ops Q (o::rest) a w:=by
 have aM:vs.length=m:=by rw[I.len];exact hm
 subst aM;obtain⟨i,hi,hz,hsz,aJ⟩:=info_parts Uf;obtain⟨ua,uc,aK,_⟩:=hu.slice
 refine wpList_append_lies (P:=Tryz.prog) w aH s x 47 ho B 48 i (.slice none 0 0) 1 24 Tryz.underlying47 hi hz hsz aJ rfl (by decide) v vs.length vs hs I.own
  ⟨g,0,none⟩ 1 cap [u] hx rfl (World.news_of_block (fr:=(0,0)) aE) (by intro q hq;simp at hq;subst hq;rw[aK];rfl) (by decide) (by unfold maxLen;omega) (by omega) hB _ rfl ?_
 intro g' J w' h2 h3 aC aL
 have aI:∀(i:Nat) q k,vs[i]?=some q→q.ownBlock=some k→k≠g':=fun i q k hq hk e=>by
  obtain⟨lq,_,aA⟩:=I.at hq;rcases aC with h4|h4
  ·exact I.apart i q k hq hk (by rw[h4,e])
  ·have:=(aA.lt hk).2;omega
 have aG:∀k,u.ownBlock=some k→k≠g':=fun k hk e=>by
  rcases aC with h4|h4
  ·exact aD k hk (by rw[h4,e])
  ·have:=(hu.lt hk).2;omega
 refine h g' J w' ⟨by rw[qH];exact h2,by rw[qH,qH,I.len];rfl,fun i q lq hq hl=>?_,fun i q k hq hk=>?_⟩ h3 aC aL
 ·by_cases Z:i<vs.length
  ·rw[qZ Z]at hq;rw[qZ (by rw[←I.len];exact Z)]at hl;have aA:=I.row i q lq hq hl;exact aA.keep (fun k hk=>h3.block k (aA.lt hk).2 (fun e=>I.apart i q k hq hk e.symm))
  ·rw[zA (by omega)]at hq;rw[zA (by rw[←I.len];omega)]at hl
   have aB:i-vs.length=0:=by
    have:=(qI.1 hq).1;simp at this;omega
   rw[aB]at hq;rw[←I.len,aB]at hl;cases hq;cases hl;exact hu.keep (fun k hk=>h3.block k (hu.lt hk).2 (fun e=>aD k hk e.symm))
 ·intro e;have e2:g'=k:=by cases e;rfl
  by_cases Z:i<vs.length
  ·rw[qZ Z]at hq;exact aI i q k hq hk e2.symm
  ·rw[zA (by omega)]at hq
   have aB:i-vs.length=0:=by
    have:=(qI.1 hq).1;simp at this;omega
   rw[aB]at hq;cases hq;exact aG k hk e2.symm
theorem Qy(ns:List (List UInt8)):∀(aa:List (List (List UInt8))) (k i:Nat),(P28.rows ns k aa)[i]?=aa[i]?.map (P28.row ns (k+i))
 | [],k,i=>by simp[P28.rows]
 |a::aa,k,0=>by simp[P28.rows]
 |a::aa,k,i+1=>by
  unfold P28.rows;rw[List.getElem?_cons_succ,List.getElem?_cons_succ,Qy ns aa (k+1) i,show k+1+i=k+(i+1) by omega]
theorem Iu(d:Af)(w:World)(cL:d.In w)(hl:d.steps.length≤100000)(bV:∀s∈d.steps,s.after.length≤1000000) :
  Calls Tryz.prog 70 #[d.val] w fun e w'=>∃v vs,e=.returned v∧Bn w' w.heap.size v vs (P28.refs d.bare)∧Below w.heap.size w w':=by
 obtain⟨H,hH⟩:=qeX w.heap.size;rw[hH];obtain⟨W1,aY,bJ,g0,cD⟩:=As w (Be d) H hH;have aR:∀V,Below (H+1) W1 V→d.In V:=fun V hV=>cL.below (by rw[hH];exact bJ.trans (hV.mono (by omega)));have aS:∀V,Below (H+1) W1 V→V.heap[H]?=some (Be d):=fun V hV=>(hV.block H (by omega)).trans g0;have aJ:=fun(x:List UInt8) (V:World) (hV:Below (H+1) W1 V)=>Kj d x V (aR V hV) (by omega);obtain⟨RS,aU⟩:=qeX (P28.refs d.bare)
 have aH:∀i s,d.steps[i]?=some s→RS[i]?=some (P28.row (d.steps.map Ai.name) i s.after):=fun i s hs=>by
  rw[←aU];unfold P28.refs;rw[Qy];simp[P28.afters,P28.names,Af.bare,Ai.bare,hs];rfl
 have bX:RS.length=d.steps.length:=by rw[←aU,P28.refs_len];simp[Af.bare]
 rw[aU];obtain⟨ns,cQ⟩:=qeX (d.steps.map Ai.name);rw[cQ]at aH aJ;obtain⟨nm,tx,sa,sc,ss⟩:=d;obtain⟨N,hN⟩:=qeX ss.length;unfold Be at aY aS g0;unfold Af.val at aJ ⊢;simp only[hN]at aY aS g0 hl bX aH bV aJ ⊢;obtain⟨⟨k0,_⟩,⟨k1,_⟩,⟨k2,_⟩⟩:=Ag g0;have cM:=Ab aR;have cJ:=Ab aS;have dC:=Ab aJ;have dA:=Ab aY;have cV:=Ab bJ;have cO:=Ab aH;have HN:=Ab hN;have cZ:=Ab bV;have cN:=Ab bX;have cX:=Ab cD;clear aR aS aJ aY bJ aU hN g0 cL aH bV bX cQ cD;go_enter Tryz.func70,Tryz.ntmps70
 go_upto_region 1 with fail
 try rw[hH]
 rw[Aa dA];go_wp2
 go_loopg [3,4] N (fun g s3 s4 wx=>∃(i:Nat) (v:Value) (vs:List Value),i+g=N∧s4=.int .i64 i∧s3=v∧Hid (Bn wx (H+1) v vs (RS.take i))∧Hid (Below (H+1) W1 wx))
 case atStart=>exact⟨0,_,[],by omega,by go_num,rfl,Ab (Bn.nil _ _),Ab (qU _ _)⟩
 case round=>
  obtain⟨i,v,vs,dH,rfl,rfl,HR,HX⟩:=hrel;clear k0 k1 k2;obtain⟨⟨k0,_⟩,⟨k1,_⟩,⟨k2,_⟩⟩:=Ag (Aa cJ wr (Aa HX));cases gk with
  |zero=>
   have e1:(N:Int)≤(i:Int):=by omega
   have j1:decide ((i:Int)<(N:Int))=false:=by simp;omega
   have hfin:=Aa HR;rw[List.take_of_length_le (by rw[Aa cN];omega)]at hfin;have HF:=Ab hfin;clear hfin;go_wp2;go_ret;exact⟨_,_,rfl,(Aa HF).base (by omega),(Aa cV).trans ((Aa HX).mono (by omega))⟩
  |succ g'=>
   have dJ:(i:Int)<(N:Int):=by omega
   have dP:IntKind.i64.wrap ((i:Int)+1)=(i:Int)+1:=qG _ (by omega);obtain⟨s,hs⟩:=Ap (Aa HN) (show i<N by omega);obtain⟨K,hK⟩:=qeX wr.heap.size;have bO:H+1≤K:=by have:=(Aa HX).size;rw[Aa cX]at this;omega
   obtain⟨va,vc,hv⟩:=(Aa HR).form;have bT:(RS.take i).length=i:=by rw[qY,Aa cN];omega
   rw[bT]at hv;subst hv;have aI:=Aa cO i s hs;have dE:=Aa cZ s (qN hs);obtain⟨A,hA⟩:=qeX s.after.length;rw[hA]at dE;obtain⟨⟨b1,o1,cB,_⟩,_⟩:=(Aa cM wr (Aa HX)).steps i s hs;simp only at cB;subst cB
   have aO:∀V,Below (H+1) W1 V→V.cell? ⟨b1,o1+i*13+3,none⟩=some (.slice s.aa A s.ac)∧Ft V s.aa s.after:=fun V hV=>by
    obtain⟨⟨b2,o2,e2,aK⟩,cC⟩:=(Aa cM V hV).steps i s hs;cases e2;have c3:=(Ar aK).1.2.2.2;unfold Ai.aV at c3;rw[hA]at c3;exact⟨c3,cC.keys⟩
   have bQ:=Ab aO;have cR:=Ab aI;have cT:=Ab bT;have HA:=Ab hA;have HK:=Ab hK;clear aI hs bT hA hK aO;go_wp2
   go_loopg [5,6] A (fun g2 s5 s6 wy=>∃(k:Nat) (u:Value) (l:List Nat),k+g2=A∧s6=.int .i64 k∧s5=u∧Hid (A5 wy K u l)∧Hid ((s.after.take k).foldl (fun l x=>P28.addTo i l (P28.idx ns x)) []=l)∧Hid (Below K wr wy))
   case atStart=>exact⟨0,_,[],by omega,by go_num,rfl,Ab (A5.nil _ _),Ab rfl,Ab (qU _ _)⟩
   case round=>
    obtain⟨k,u,l,dI,rfl,rfl,HU,HL,HY⟩:=hrel;have aG:=(Aa HX).trans ((Aa HY).mono bO);clear k0 k1 k2;obtain⟨⟨k0,_⟩,⟨k1,_⟩,⟨k2,_⟩⟩:=Ag (Aa cJ wr aG);obtain⟨c3,bD⟩:=Aa bQ wr aG;obtain⟨ua,uc,hu,_,_,bF⟩:=(Aa HU).slice;obtain⟨LL,aX⟩:=qeX l.length
    have dL:LL≤A:=by
     have:=O2 ns i (s.after.take k) [];rw[Aa HL,qY,Aa HA,aX]at this;simp at this;omega
    rw[aX]at hu;subst hu;have aW:=Ab aX;have bY:=Ab aG;clear aX aG;cases gk with
    |zero=>
     have e2:(A:Int)≤(k:Int):=by omega
     have j2:decide ((k:Int)<(A:Int))=false:=by simp;omega
     have bI:P28.row ns i s.after=l:=by
      have:=Aa HL;rw[List.take_of_length_le (by rw[Aa HA];omega)]at this;exact this
     have aI:=Aa cR;rw[bI]at aI;have dD:Hid (RS.take (i+1)=RS.take i++[l]):=Ab (by rw[List.take_add_one,aI];rfl);obtain⟨W2,aQ,Z,g2,cU⟩:=As wr (.cells #[.slice ua LL uc] 48) wr.heap.size rfl;have bK:K≤wr.heap.size:=by have:=(Aa HY).size;rw[Aa HK]at this;exact this
     have aC:=Ab ((Aa HY).trans (Z.mono bK));have aD:=Ab ((Aa HU).keep (W':=W2) (fun g hg=>Z.block g ((Aa HU).lt hg).2));have dF:=Ab ((Aa HR).keep (W':=W2) (fun g hg=>(Aa aC).block g (by rw[←Aa HK];exact hg)))
     have cG:∀q,(Value.slice ua LL uc).ownBlock=some q→(Value.slice va i vc).ownBlock≠some q:=fun q hq e=>by
      have h1:=((Aa HU).lt hq).1;have h2:=(Ax (Aa HR).own q e).2;rw[Aa HK]at h2;omega
     have cH:H+1≤W2.heap.size:=by omega
     have cW:=Ab g2;have bL:=Ab aQ;have cY:=Ab cG;clear aI bI aQ Z g2 cG bF;go_wp2_with (rw[Aa bL];refine Ly (by rfl) _ _ (by rfl) (by rfl) (Aa dF) wr.heap.size 1 (by rfl) (Aa cW) ((Aa aD).base bO) (Aa cY) i (Aa cT) (by omega) cH ?_;intro g3 cP w3 aA aB aK aM;have bW:=Ab aA;have bM:=Ab (((Aa HX).trans ((Aa aC).mono bO)).grown aB cH (fun q hq=>(Ax (Aa HR).own q hq).1));clear aA aB aK aM)
     go_roundg g'
     case measure=>omega
     case rel=>exact⟨i+1,_,_,by omega,by go_num,rfl,Ab (by rw[Aa dD];exact Aa bW),bM⟩
    |succ g2=>
     have dG:(k:Int)<(A:Int):=by omega
     have dN:IntKind.i64.wrap ((k:Int)+1)=(k:Int)+1:=qG _ (by omega);obtain⟨x,hx⟩:=Ap (Aa HA) (show k<A by omega);obtain⟨rb,ro,bZ,cx⟩:=bD k x hx;rw[bZ]at c3
     have aE:(s.after.take (k+1)).foldl (fun l x=>P28.addTo i l (P28.idx ns x)) []=P28.addTo i l (P28.idx ns x):=by
      rw[List.take_add_one,hx,Option.toList_some,List.foldl_append,Aa HL];rfl
     obtain⟨J,hJ⟩:=qeX (P28.idx ns x);rw[hJ]at aE;have aL:=fun V hV=>Aa dC x V hV;rw[hJ]at aL;have cF:=Ab aL;have aT:=Ab aE;clear aE aL hx bZ bD hJ;go_upto_region 9 with fail
     refine Ak 10 (by kernel_rfl) (by kernel_rfl) (by kernel_rfl) (by kernel_rfl) (by kernel_rfl) ?_;simp only[List.take_succ_cons,List.take_zero,List.drop_succ_cons,List.drop_zero]
     repeat (go_big_quiet_step (fail))
     refine wpQuiet_nil ?_;rintro _ ⟨nq,rfl⟩;go_upto_region 10 with(go_at_call 118;refine((Aa cF) _ ((Aa bY).trans (Ac (qU _ _)))).mono ?_;rintro e w2 ⟨rfl,Z⟩)
     have bK:K≤wr.heap.size:=by have:=(Aa HY).size;rw[Aa HK]at this;exact this
     have aZ:Below K wr w2:=(Ac (qU _ _)).trans (Z.mono (by simpa using bK));have aC:=Ab ((Aa HY).trans aZ);have bU:A5 w2 K (.slice ua LL uc) l:=(Aa HU).keep (fun g hg=>Z.block g ((Aa HU).lt hg).2);have aD:=Ab bU;have bG:=(Aa aC).size;rw[Aa HK]at bG;clear Z aZ bF k0 k1 k2 c3 cx;rcases J with _|j
     ·have e0:Hn none=-1:=rfl;rw[e0];go_wp2;go_roundg g2
      case measure=>omega
      case rel=>exact⟨k+1,_,_,by omega,by go_num,rfl,aD,Ab (Aa aT),aC⟩
     ·have e0:Hn (some j)=(j:Int):=rfl;rw[e0];clear e0;by_cases cK:j=i
      ·obtain rfl:=cK;have aP:Hid (P28.addTo j l (some j)=l):=Ab (by simp[P28.addTo]);go_wp2;go_roundg g2
       case measure=>omega
       case rel=>exact⟨k+1,_,_,by omega,by go_num,rfl,aD,Ab ((Aa aT).trans (Aa aP)),aC⟩
      ·have dK:((j:Int) != (i:Int))=true:=by simp;omega
       have h0:(0:Int)≤(j:Int):=by omega
       obtain⟨dQ,dM,cI,_,_,bC⟩:=bU.slice;rw[Aa aW]at cI;cases cI;have I:=J8 ua uc l j w2 bC (by rw[Aa aW];omega);rw[Aa aW]at I;clear bU bC;by_cases hm:j∈l
       ·rw[decide_eq_true hm]at I;have aN:=Ab I;have aP:Hid (P28.addTo i l (some j)=l):=Ab (by simp[P28.addTo,hm]);clear hm I;go_wp2_with (go_at_call 31;refine(Aa aN).mono ?_;rintro e w3 ⟨rfl,hw⟩;obtain rfl:=hw.symm)
        go_roundg g2
        case measure=>omega
        case rel=>exact⟨k+1,_,_,by omega,by go_num,rfl,aD,Ab ((Aa aT).trans (Aa aP)),aC⟩
       ·rw[decide_eq_false hm]at I;have aN:=Ab I;have aP:Hid (P28.addTo i l (some j)=l++[j]):=Ab (by simp[P28.addTo,hm,cK]);obtain⟨W2,aQ,Z,gn,cU⟩:=As w2 (.cells #[.int .i64 (j:Int)] 3) w2.heap.size rfl;have cA:=Ab ((Aa aD).keep (W':=W2) (fun g hg=>Z.block g ((Aa aD).lt hg).2));have cS:=Ab ((Aa aC).trans (Z.mono bG));have bE:K≤W2.heap.size:=by omega
        have bL:=Ab aQ;have dB:=Ab gn;clear hm I aQ Z gn;go_wp2_with (first|(go_at_call 31;refine(Aa aN).mono ?_;rintro e w3 ⟨rfl,hw⟩;obtain rfl:=hw.symm)|(rw[Aa bL];refine Bf (by rfl) _ _ (by rfl) (by rfl) (Aa cA) w2.heap.size 1 (by rfl) (Aa dB) LL (Aa aW) (by omega) bE ?_;intro g3 cP w4 aA aB aK aM;have bW:=Ab aA;have bM:=Ab ((Aa cS).grown aB bE (fun q hq=>((Aa cA).lt hq).1));clear aA aB aK aM))
        go_roundg g2
        case measure=>omega
        case rel=>exact⟨k+1,_,_,by omega,by go_num,rfl,bW,Ab ((Aa aT).trans (Aa aP)),bM⟩
open Go.RowKit
theorem Xj(B H N i c:Nat)(a:Option Addr)(vs:List Value)(RS:List (List Nat))(l:List Nat)(th:Nat→Bool)(w:World)(hg:Bn w B (.slice a N c) vs RS)(hN:RS.length=N)(hi:RS[i]?=some l)(I:∀x∈l,x<N)
  (hr:w.rowIs H 4 N (fun j=>.bool (th j))) (aK:N≤100000) (aG:l.length≤1000000) :
  Calls Tryz.prog 155 #[.slice a N c,.slice (some ⟨H,0,none⟩) N N,.int .i64 i] w fun e w'=>e=.returned (.bool (l.all th))∧w'=w:=by
 have aJ:i<N:=by rw[←hN];exact(qI.1 hi).1
 obtain⟨g,va,vc,rfl,hc,Z⟩:=hg.get hi;obtain⟨L,hL⟩:=qeX l.length;rw[hL]at hc aG;obtain⟨aB,hR⟩:∃R,l.all th=R:=⟨_,rfl⟩;rw[hR];have aE:=Ab Z;have aH:=Ab I;have HR:=Ab hr;have HL:=Ab hL;have J:=Ab hR;clear Z I hr hL hR hg hi hN;go_enter Tryz.func155,Tryz.ntmps155
 go_wp2
 go_loopg [7] L (fun q s7 wx=>∃k:Nat,k+q=L∧s7=.int .i64 k∧w=wx∧Hid ((l.drop k).all th=aB))
 case atStart=>exact⟨0,by omega,by go_num,rfl,Ab (by simpa using Aa J)⟩
 case round=>
  obtain⟨k,aM,rfl,hw,HK⟩:=hrel;subst hw;cases gk with
  |zero=>
   have e1:(L:Int)≤(k:Int):=by omega
   have j1:decide ((k:Int)<(L:Int))=false:=by simp;omega
   have e:aB=true:=by
    have:=Aa HK;rw[List.drop_eq_nil_of_le (by rw[Aa HL];omega)]at this;exact this.symm
   subst e;go_wp2;go_ret;exact⟨rfl,rfl⟩
  |succ g'=>
   have I:(k:Int)<(L:Int):=by omega
   have aL:IntKind.i64.wrap ((k:Int)+1)=(k:Int)+1:=qG _ (by omega);obtain⟨x,hx⟩:=Ap (Aa HL) (show k<L by omega);obtain⟨b2,o2,rfl,cx⟩:=Aa aE k x hx;unfold iv at cx;have aD:=Aa aH x (qN hx);have aA:=(Aa HR).cell aD;have aI:=(Aa HR).frozen x;have h0:(0:Int)≤(x:Int):=by omega
   have h1:(x:Int)<(N:Int):=by omega
   have hk:=Aa HK
   rw[show l.drop k=x::l.drop (k+1) by
    obtain⟨hl,e⟩:=qI.1 hx
    rw[qL hl,e],List.all_cons]at hk
   cases ht:th x with
   |true=>
    rw[ht]at aA hk;rw[Bool.true_and]at hk;have aC:=Ab hk;clear hk ht hx;go_wp2;go_roundg g'
    case measure=>omega
    case rel=>exact⟨k+1,by omega,by go_num,rfl,aC⟩
   |false=>
    rw[ht]at aA hk;rw[Bool.false_and]at hk;subst hk;clear ht hx;go_wp2;go_ret;exact⟨rfl,rfl⟩
theorem Oy{RS:List (List Nat)}{th:List Bool}{out:List Nat}(h:P28.next RS th=none):∀g,P28.orderGo RS g th out=out
 |0=>rfl
 |g+1=>by rw[Dk,h]
theorem Rp(B N c:Nat)(a:Option Addr)(vs:List Value)(RS:List (List Nat))(w:World)(hg:Bn w B (.slice a N c) vs RS)(hN:RS.length=N)(aW:∀l∈RS,∀x∈l,x<N)(cH:N≤100000)(bW:∀l∈RS,l.length≤1000000) :
  Calls Tryz.prog 114 #[.slice a N c] w fun e w'=>∃v,e=.returned v∧A5 w' w.heap.size v (P28.order RS)∧Below w.heap.size w w':=by
 obtain⟨H,hH⟩:=qeX w.heap.size;have cU:=fun V=>run_make_row' (P:=Tryz.prog) 49 4 (.bool false) 1 Tryz.underlying49 P8 rfl .i64 .i64 N (by omega) (by omega) V;obtain⟨W1,bK,bC,g0,cX⟩:=As w (.cells (madeCells #[.bool false] N) 4) H hH;have aD:P28.orderGo RS N (List.replicate N false) []=P28.order RS:=by unfold P28.order;rw[hN]
 obtain⟨J,aE⟩:=qeX (P28.order RS);rw[aE]at aD;have bO:Wv w W1 H N (List.replicate N false) [] (.slice none 0 0):=⟨A5.nil _ _,⟨_,g0,size_madeCells _ _,fun i hi=>by simp[madeCells,hi,Nat.mod_one,List.getD_eq_getElem?_getD]⟩,by simp,bC,by omega⟩;have aM:=fun(V:World) (hV:Below H w V) (i:Nat) (l:List Nat) (hi:RS[i]?=some l) (th:List Bool) (hr:V.rowIs H 4 N (fun j=>.bool (th.getD j false)))=>Xj B H N i c a vs RS l (fun j=>th.getD j false) V (hg.keep (fun g bX=>hV.block g (by rw[←hH];exact bX))) hN hi (aW l (qN hi)) hr cH (bW l (qN hi));have aY:∀th:List Bool,P28.nextFrom RS th N 0=P28.next RS th:=fun th=>by unfold P28.next;rw[hN]
 have aA:∀(th:List Bool) (i:Nat) (l:List Nat),RS[i]?=some l→P28.mayB RS th i=l.all (fun j=>th.getD j false):=fun th i l h=>by unfold P28.mayB;rw[List.getD_eq_getElem?_getD,h];rfl
 rw[aE,hH];have cK:=Ab bK;have bQ:=Ab aD;have cF:=Ab bO;have bM:=Ab aM;have cD:=Ab aY;have cG:=Ab aA;have HN:=Ab hN;clear bK aD bO aM aY aA hg aW bW bC g0 hN aE;go_enter Tryz.func114,Tryz.ntmps114
 go_upto_region 2 with fail
 try rw[hH]
 rw[Aa cK];go_wp2
 go_loopg [4,5] N (fun g s4 s5 wx=>∃(n:Nat) (th:List Bool) (out:List Nat) (v:Value),n+g=N∧s5=.int .i64 n∧s4=v∧out.length≤n∧Hid (Wv w wx H N th out v)∧Hid (P28.orderGo RS g th out=J))
 case atStart=>exact⟨0,_,[],_,by omega,by go_num,rfl,by simp,cF,bQ⟩
 case round=>
  obtain⟨n,th,out,v,cT,rfl,rfl,cS,HO,HG⟩:=hrel;obtain⟨va,vc,rfl,bU,aZ,_⟩:=(Aa HO).own.slice;cases gk with
  |zero=>
   have e1:(N:Int)≤(n:Int):=by omega
   have j1:decide ((n:Int)<(N:Int))=false:=by simp;omega
   have hfin:out=J:=Aa HG;have bG:=Ab hfin;clear hfin bU aZ;go_wp2;go_ret;have ho:=Aa HO;exact⟨_,rfl,by rw[←Aa bG];exact ho.own.base (by omega),ho.bel⟩
  |succ g'=>
   have aW:(n:Int)<(N:Int):=by omega
   have cR:IntKind.i64.wrap ((n:Int)+1)=(n:Int)+1:=qG _ (by omega);obtain⟨NX,aL⟩:=qeX (P28.next RS th)
   have aR:=Aa HG;rw[Dk,aL]at aR;have bE:P28.nextFrom RS th N 0=NX:=by rw[Aa cD,aL]
   have bL:=Ab aR;have cB:=Ab bE;have aX:=Ab aL;clear aR bE aL HG;go_wp2
   go_loopg [4,6] N (fun g2 s4 s6 wy=>∃(i:Nat),i+g2=N∧s6=.int .i64 i∧s4=.slice va out.length vc∧Hid (Wv w wy H N th out (.slice va out.length vc))∧Hid (P28.nextFrom RS th g2 i=NX))
   case atStart=>exact⟨0,by omega,by go_num,rfl,HO,cB⟩
   case round=>
    obtain⟨i,cQ,rfl,rfl,aB,HF⟩:=hrel;cases gk with
    |zero=>
     have e2:(N:Int)≤(i:Int):=by omega
     have j2:decide ((i:Int)<(N:Int))=false:=by simp;omega
     have cC:none=NX:=Aa HF;subst cC;have hfin:out=J:=Aa bL;have cI:Hid (P28.orderGo RS g' th out=J):=Ab (by rw[Oy (Aa aX)];exact hfin);clear hfin bU aZ;go_wp2;go_roundg g'
     case measure=>omega
     case rel=>exact⟨n+1,th,out,_,by omega,by go_num,rfl,by omega,aB,cI⟩
    |succ g2=>
     have cM:(i:Int)<(N:Int):=by omega
     have cW:IntKind.i64.wrap ((i:Int)+1)=(i:Int)+1:=qG _ (by omega);have hf:=Aa HF;rw[Gz]at hf;obtain⟨l,hl⟩:∃l,RS[i]?=some l:=Ap (Aa HN) (by omega);have aA:=Aa cG th i l hl;have ho:=Aa aB;have Z:=ho.row.cell (i:=i) (by omega);have aT:=ho.row.frozen i;cases ht:th.getD i false with
     |true=>
      rw[ht]at Z hf;rw[if_neg (by simp)]at hf;have aS:=Ab hf;clear hf aA ho hl aT ht;go_wp2;go_roundg g2
      case measure=>omega
      case rel=>exact⟨i+1,by omega,by go_num,rfl,aB,aS⟩
     |false=>
      rw[ht]at Z hf;have hm:=Aa bM wr ho.bel i l hl th ho.row;rw[←aA]at hm;obtain⟨mb,aC⟩:=qeX (P28.mayB RS th i);rw[aC]at hm hf;have bJ:=Ab hm;cases mb with
      |false=>
       rw[if_neg (by simp)]at hf;have aS:=Ab hf;clear hf aA ho hl aT ht hm aC;go_wp2_with (go_at_call 155;refine(Aa bJ).mono ?_;rintro e w2 ⟨rfl,hw⟩;obtain rfl:=hw.symm)
       go_roundg g2
       case measure=>omega
       case rel=>exact⟨i+1,by omega,by go_num,rfl,aB,aS⟩
      |true=>
       rw[if_pos ⟨rfl,rfl⟩]at hf;subst hf;have aN:P28.orderGo RS g' (th.set i true) (out++[i])=J:=Aa bL;have bF:=Ab aN;clear aA hl ht hm aC aN;go_upto_region 10 with(go_at_call 155;refine(Aa bJ).mono ?_;rintro e w2 ⟨rfl,hw⟩;obtain rfl:=hw.symm)
       have cV:=ho.size;obtain⟨W3,aH⟩:=qeX (wr.setCell ⟨H,i,none⟩ (.bool true));have cA:W3.heap.size=wr.heap.size:=by rw[←aH];simp
       have aO:∀g,g≠H→W3.heap[g]?=wr.heap[g]?:=fun g hg=>by rw[←aH];exact qC _ _ _ _ hg
       have bI:Below H w W3:=by rw[←aH];exact ho.bel.setCell (p:=⟨H,i,none⟩) (qJ H) _
       obtain⟨W4,bD,aP,g4,cP⟩:=As W3 (.cells #[.int .i64 i] 3) wr.heap.size cA;have aJ:A5 W4 (H+1) (.slice va out.length vc) out:=(ho.own.keep (fun g hg=>aO g (by have:=(ho.own.lt hg).1;omega))).keep (fun g hg=>aP.block g (ho.own.lt hg).2);have bY:(Value.slice va out.length vc).ownBlock≠some H:=fun e=>by have:=(ho.own.lt e).1;omega
       have aQ:=Ab aH;have cL:=Ab bD;have bZ:=Ab bI;have bT:=Ab aP;have cJ:=Ab g4;have aG:=Ab aJ;clear ho aH bD aO bI aP g4 aJ;go_upto_region 11 with fail
       rw[Aa aQ];clear Z aT;go_wp2_with (rw[Aa cL];refine Bf (j:=i) (by rfl) _ _ (by rfl) (by rfl) (Aa aG) wr.heap.size 1 (by rfl) (Aa cJ) out.length rfl (by omega) (by omega) ?_;intro g5 cN w5 aK I bV cO)
       have aI:=(Aa aB).next (i:=i) (V2:=w5) (by omega) aK (by rw[Aa aQ];have:=I.size;omega) (by rw[Aa aQ];exact(I.block H (by omega) (fun e=>bY e.symm)).trans ((Aa bT).block H (by omega)))
        ((((Aa bZ).trans ((Aa bT).mono (by omega)))).grown I (by omega) (fun k e=>by have:=((Aa aG).lt e).1;omega))
       have aU:=Ab aI;clear aI aK I bV;go_roundg g'
       case measure=>omega
       case rel=>exact⟨n+1,_,_,_,by omega,by go_num,rfl,by simp;omega,aU,bF⟩
open Go.RowKit
theorem Wk{W:World}{g o:Nat}{cs:Array Value}{T:TypeId}{v:Value}(h:W.heap[g]?=some (.cells cs T)):(W.setCell ⟨g,o,none⟩ v).heap[g]?=some (.cells (cs.setIfInBounds o v) T):=by
 simp[World.setCell,Array.getElem?_modify,h]
theorem A9{W:World}{g o:Nat}{cs:Array Value}{T:TypeId}{v:Value}(h:W.heap[g]?=some (.cells cs T))(I:cs[o]?=some v):W.cell? ⟨g,o,none⟩=some v:=by
 rw[cell_of_row W g o cs T (0,0) h];exact I
structure RB (w V:World) (H:Nat) (a z:Obj):Prop where
 old:V.heap[H]?=some a
 new:V.heap[H+1]?=some z
 bel:Below H w V
theorem It(s:Ai)(w:World):Calls Tryz.prog 154 #[s.val] w fun e w'=>e=.returned s.real.val∧Below w.heap.size w w':=by
 obtain⟨n,a,u,aa,ac,af,m,fi,fa,li,⟨k,t,ka,kc,ks,da,dc,ds,l⟩⟩:=s;unfold Ai.real;rw[Ai.val_eqn,Ai.val_eqn];obtain⟨N1,aN⟩:=qeX af.length;obtain⟨N2,aS⟩:=qeX ks.length;obtain⟨N3,aM⟩:=qeX ds.length;rw[aN,aS,aM];clear aN aS aM;simp only;obtain⟨H,hH⟩:=qeX w.heap.size;obtain⟨W1,aL,aK,g0,aJ⟩:=As w (.cells #[.string ⟨n.toArray⟩,.string ⟨a.toArray⟩,.string ⟨u.toArray⟩,.slice aa N1 ac,.int .i64 m,.int .i64 fi,.int .i64 fa,.int .i64 li,.int .u8 k,.string ⟨t.toArray⟩,.slice ka N2 kc,.slice da N3 dc,.int .i64 l] 63) H hH;obtain⟨W2,aO,aG,g1,aY⟩:=As W1 (.cells #[.string ⟨#[]⟩,.string ⟨#[]⟩,.string ⟨#[]⟩,.slice none 0 0,.int .i64 0,.int .i64 0,.int .i64 0,.int .i64 0,.int .u8 0,.string ⟨#[]⟩,.slice none 0 0,.slice none 0 0,.int .i64 0] 63) (H+1) aJ;have aA:Hid (RB w W2 H (.cells #[.string ⟨n.toArray⟩,.string ⟨a.toArray⟩,.string ⟨u.toArray⟩,.slice aa N1 ac,.int .i64 m,.int .i64 fi,.int .i64 fa,.int .i64 li,.int .u8 k,.string ⟨t.toArray⟩,.slice ka N2 kc,.slice da N3 dc,.int .i64 l] 63) (.cells #[.string ⟨#[]⟩,.string ⟨#[]⟩,.string ⟨#[]⟩,.slice none 0 0,.int .i64 0,.int .i64 0,.int .i64 0,.int .i64 0,.int .u8 0,.string ⟨#[]⟩,.slice none 0 0,.slice none 0 0,.int .i64 0] 63)):=Ab ⟨(aG.block H (by omega)).trans g0,g1,aK.trans (aG.mono (by omega))⟩;obtain⟨m',aI⟩:∃m',P28.meant m 1=m':=⟨_,rfl⟩;obtain⟨aE,aD⟩:∃m',P28.meant fa 1=m':=⟨_,rfl⟩;obtain⟨aH,aC⟩:∃m',P28.meant li 100=m':=⟨_,rfl⟩;rw[aI,aD,aC];have aZ:=Ab aL;have aW:=Ab aO;have HM:=Ab aI;have aQ:=Ab aD;have aP:=Ab aC;clear aL aO g0 g1 aK aG aI aD aC;go_enter Tryz.func154,Tryz.ntmps154
 go_upto_region 1 with fail
 try rw[hH]
 rw[Aa aZ];try rw[aJ]
 rw[Aa aW];clear aJ aY;have y4:=A9 (o:=4) (Aa aA).old rfl;have aT:=(Am (Aa aA).old);obtain⟨⟨_,f0⟩,⟨_,f1⟩,⟨_,f2⟩,⟨_,f3⟩,⟨_,f4⟩,⟨_,f5⟩,⟨_,f6⟩,⟨_,f7⟩,_⟩:=aT
 go_upto_if 6 with fail
 go_cut [] from 3 to 8 (fun wx=>Hid (RB w wx H (.cells #[.string ⟨n.toArray⟩,.string ⟨a.toArray⟩,.string ⟨u.toArray⟩,.slice aa N1 ac,.int .i64 m',.int .i64 fi,.int .i64 fa,.int .i64 li,.int .u8 k,.string ⟨t.toArray⟩,.slice ka N2 kc,.slice da N3 dc,.int .i64 l] 63) (.cells #[.string ⟨#[]⟩,.string ⟨#[]⟩,.string ⟨#[]⟩,.slice none 0 0,.int .i64 0,.int .i64 0,.int .i64 0,.int .i64 0,.int .u8 0,.string ⟨#[]⟩,.slice none 0 0,.slice none 0 0,.int .i64 0] 63)))
 case first=>
  by_cases hz:m=0
  ·subst hz;have e:m'=1:=by rw[←Aa HM];rfl
   subst e;go_wp2
   go_meet
   exact Ab ⟨Wk (Aa aA).old,(qC _ _ _ _ (show H+1≠H by omega)).trans (Aa aA).new,(Aa aA).bel.setCell (p:=⟨H,4,none⟩) (qJ H) _⟩
  ·have aR:(m==0)=false:=by simp[hz]
   have e:m'=m:=by rw[←Aa HM];unfold P28.meant;rw[if_neg hz]
   subst e;go_wp2
   go_meet
   exact aA
 case rest=>
 have Z:=hcut;clear y4 f0 f1 f2 f3 f4 f5 f6 f7;have y6:=A9 (o:=6) (Aa Z).old rfl;have aU:=(Am (Aa Z).old);obtain⟨⟨_,f0⟩,⟨_,f1⟩,⟨_,f2⟩,⟨_,f3⟩,⟨_,f4⟩,⟨_,f5⟩,⟨_,f6⟩,⟨_,f7⟩,_⟩:=aU
 go_upto_if 12 with fail
 go_cut [] from 9 to 14 (fun wx=>Hid (RB w wx H (.cells #[.string ⟨n.toArray⟩,.string ⟨a.toArray⟩,.string ⟨u.toArray⟩,.slice aa N1 ac,.int .i64 m',.int .i64 fi,.int .i64 aE,.int .i64 li,.int .u8 k,.string ⟨t.toArray⟩,.slice ka N2 kc,.slice da N3 dc,.int .i64 l] 63) (.cells #[.string ⟨#[]⟩,.string ⟨#[]⟩,.string ⟨#[]⟩,.slice none 0 0,.int .i64 0,.int .i64 0,.int .i64 0,.int .i64 0,.int .u8 0,.string ⟨#[]⟩,.slice none 0 0,.slice none 0 0,.int .i64 0] 63)))
 case first=>
  by_cases hz:fa=0
  ·subst hz;have e:aE=1:=by rw[←Aa aQ];rfl
   subst e;go_wp2
   go_meet
   exact Ab ⟨Wk (Aa Z).old,(qC _ _ _ _ (show H+1≠H by omega)).trans (Aa Z).new,(Aa Z).bel.setCell (p:=⟨H,6,none⟩) (qJ H) _⟩
  ·have aR:(fa==0)=false:=by simp[hz]
   have e:aE=fa:=by rw[←Aa aQ];unfold P28.meant;rw[if_neg hz]
   subst e;go_wp2
   go_meet
   exact Z
 case rest=>
 have J:=hcut;clear y6 f0 f1 f2 f3 f4 f5 f6 f7;have y7:=A9 (o:=7) (Aa J).old rfl;have aX:=(Am (Aa J).old);obtain⟨⟨_,f0⟩,⟨_,f1⟩,⟨_,f2⟩,⟨_,f3⟩,⟨_,f4⟩,⟨_,f5⟩,⟨_,f6⟩,⟨_,f7⟩,_⟩:=aX
 go_upto_if 17 with fail
 go_cut [] from 15 to 18 (fun wx=>Hid (RB w wx H (.cells #[.string ⟨n.toArray⟩,.string ⟨a.toArray⟩,.string ⟨u.toArray⟩,.slice aa N1 ac,.int .i64 m',.int .i64 fi,.int .i64 aE,.int .i64 aH,.int .u8 k,.string ⟨t.toArray⟩,.slice ka N2 kc,.slice da N3 dc,.int .i64 l] 63) (.cells #[.string ⟨#[]⟩,.string ⟨#[]⟩,.string ⟨#[]⟩,.slice none 0 0,.int .i64 0,.int .i64 0,.int .i64 0,.int .i64 0,.int .u8 0,.string ⟨#[]⟩,.slice none 0 0,.slice none 0 0,.int .i64 0] 63)))
 case first=>
  by_cases hz:li=0
  ·subst hz;have e:aH=100:=by rw[←Aa aP];rfl
   subst e;go_wp2
   go_meet
   exact Ab ⟨Wk (Aa J).old,(qC _ _ _ _ (show H+1≠H by omega)).trans (Aa J).new,(Aa J).bel.setCell (p:=⟨H,7,none⟩) (qJ H) _⟩
  ·have aR:(li==0)=false:=by simp[hz]
   have e:aH=li:=by rw[←Aa aP];unfold P28.meant;rw[if_neg hz]
   subst e;go_wp2
   go_meet
   exact J
 case rest=>
 have aB:=hcut;clear y7 f0 f1 f2 f3 f4 f5 f6 f7;obtain⟨⟨c0,_⟩,⟨c1,_⟩,⟨c2,_⟩,⟨c3,_⟩,⟨c4,_⟩,⟨c5,_⟩,⟨c6,_⟩,⟨c7,_⟩,⟨c8,_⟩,⟨c9,_⟩,⟨c10,_⟩,⟨c11,_⟩,⟨c12,_⟩⟩:=Am (Aa aB).old;obtain⟨⟨_,f0⟩,⟨_,f1⟩,⟨_,f2⟩,⟨_,f3⟩,⟨_,f4⟩,⟨_,f5⟩,⟨_,f6⟩,⟨_,f7⟩,⟨_,f8⟩,⟨_,f9⟩,⟨_,f10⟩,⟨_,f11⟩,⟨_,f12⟩⟩:=Am (Aa aB).new;go_wp2
 (try simp only[Exit.inBlock,Exit.then])
 refine qV (Ah rfl _ _ _ (H+1) _ rfl (Lr (Tj (Aa aB).new _ _ _ _ _ _ _ _ _ _ _ _ _))) rfl ?_;refine⟨rfl,?_⟩;try rw[hH]
 have I:H≤H+1:=by omega
 exact((((((((((((((Aa aB).bel).setCell (p:=⟨H+1,0,none⟩) I _).setCell (p:=⟨H+1,1,none⟩) I _).setCell (p:=⟨H+1,2,none⟩) I _).setCell (p:=⟨H+1,3,none⟩) I _).setCell (p:=⟨H+1,4,none⟩) I _).setCell (p:=⟨H+1,5,none⟩) I _).setCell (p:=⟨H+1,6,none⟩) I _).setCell (p:=⟨H+1,7,none⟩) I _).setCell (p:=⟨H+1,8,none⟩) I _).setCell (p:=⟨H+1,9,none⟩) I _).setCell (p:=⟨H+1,10,none⟩) I _).setCell (p:=⟨H+1,11,none⟩) I _).setCell (p:=⟨H+1,12,none⟩) I _
open Go.RowKit
theorem Zy(m f k:Int)(V:World):Calls Tryz.prog 154 #[.agg #[.string ⟨#[]⟩,.string ⟨#[]⟩,.string ⟨#[]⟩,.slice none 0 0,.int .i64 m,.int .i64 f,.int .i64 k,.int .i64 0,.int .u8 0,.string ⟨#[]⟩,.slice none 0 0,.slice none 0 0,.int .i64 0]] V fun e w'=>e=.returned (.agg #[.string ⟨#[]⟩,.string ⟨#[]⟩,.string ⟨#[]⟩,.slice none 0 0,.int .i64 (P28.meant m 1),.int .i64 f,.int .i64 (P28.meant k 1),.int .i64 (P28.meant 0 100),.int .u8 0,.string ⟨#[]⟩,.slice none 0 0,.slice none 0 0,.int .i64 0])∧Below V.heap.size V w':=It (stT m f k) V
attribute [local go_sem] Fp
theorem Kk(m f k:Int)(w:World):Calls Tryz.prog 120 #[.agg #[.int .i64 m,.int .i64 f,.int .i64 k]] w fun e w'=>e=.returned (.agg #[.int .i64 (min (max (P28.meant m 1) 0) 10),.int .i64 (max f 0),.int .i64 (max (P28.meant k 1) 0)])∧Below w.heap.size w w':=by
 obtain⟨H,hH⟩:=qeX w.heap.size;rw[hH];have hr:=fun V=>Zy m f k V;obtain⟨M,hM⟩:∃x,P28.meant m 1=x:=⟨_,rfl⟩;obtain⟨K,hK⟩:∃x,P28.meant k 1=x:=⟨_,rfl⟩;obtain⟨Li,aB⟩:∃x,P28.meant 0 100=x:=⟨_,rfl⟩;rw[hM,hK,aB]at hr;rw[hM,hK];obtain⟨M2,aA⟩:∃x,min (max M 0) 10=x:=⟨_,rfl⟩;obtain⟨F2,Z⟩:∃x,max f 0=x:=⟨_,rfl⟩;obtain⟨K2,J⟩:∃x,max K 0=x:=⟨_,rfl⟩;rw[aA,Z,J];obtain⟨W1,aG,aC,g0,g1,aP⟩:=Dt w (.cells #[.int .i64 m,.int .i64 f,.int .i64 k] 58) (.cells #[.int .i64 0,.int .i64 0,.int .i64 0] 58) H hH;have HR:=Ab hr;have aO:=Ab aG;have aH:=Ab aC;have aE:=Ab g0;have aI:=Ab g1;have aN:=Ab aA;have aL:=Ab Z;have aM:=Ab J;obtain⟨⟨k0,f0⟩,⟨k1,f1⟩,⟨k2,f2⟩⟩:=Ag g0;clear hr hM hK aB aG aC g0 g1 aA Z J;go_enter Tryz.func120,Tryz.ntmps120
 go_upto_region 1 with fail
 try rw[hH]
 rw[Aa aO];go_upto_region 2 with(go_at_call 154;with_reducible refine(Aa HR _).mono ?_;rintro e w2 ⟨rfl,b2⟩;have hg:=(b2.block H (by omega)).trans (Aa aE);obtain⟨⟨q0,r0⟩,⟨q1,r1⟩,⟨q2,r2⟩⟩:=Ag hg;have HG:=Ab hg;clear hg)
 obtain⟨W3,I⟩:=qeX (((w2.setCell ⟨H,0,none⟩ (.int .i64 M)).setCell ⟨H,1,none⟩ (.int .i64 f)).setCell ⟨H,2,none⟩ (.int .i64 K));rw[I];have hz:=b2.size
 have aD:Below H w W3:=by
  rw[←I];exact((((Aa aH).trans (b2.mono (by omega))).setCell (p:=⟨H,0,none⟩) (qJ H) _).setCell (p:=⟨H,1,none⟩) (qJ H) _).setCell (p:=⟨H,2,none⟩) (qJ H) _
 have g3:W3.heap[H]?=some (.cells #[.int .i64 M,.int .i64 f,.int .i64 K] 58):=by rw[←I];exact Qs (Qr (Qq (Aa HG) _) _) _
 have h3:W3.heap[H+1]?=some (.cells #[.int .i64 0,.int .i64 0,.int .i64 0] 58):=by
  rw[←I,qC _ _ _ _ (by show H+1≠H;omega),qC _ _ _ _ (by show H+1≠H;omega),qC _ _ _ _ (by show H+1≠H;omega)];exact(b2.block (H+1) (by omega)).trans (Aa aI)
 clear I q0 r0 q1 r1 q2 r2 b2 k0 f0 k1 f1 k2 f2 aE aI HG aH HR;have aK:=Ab aD;have aJ:=Ab h3;obtain⟨⟨q0,r0⟩,⟨q1,r1⟩,⟨q2,r2⟩⟩:=Ag g3;obtain⟨⟨x0,y0⟩,⟨x1,y1⟩,⟨x2,y2⟩⟩:=Ag h3;clear aD g3 h3;have aA:=Aa aN;have Z:=Aa aL;have J:=Aa aM;go_wp2
 (try simp only[Exit.inBlock,Exit.then])
 have g7:=Qs (Qr (Qq (Aa aJ) (.int .i64 M2)) (.int .i64 F2)) (.int .i64 K2);refine qV (Ah rfl _ _ _ (H+1) _ rfl (qW _ _ _ _ _ _ _ g7 Tryz.underlying58 rfl (by kernel_rfl)) ) rfl ?_;refine⟨rfl,?_⟩;exact(((Aa aK).setCell (p:=⟨H+1,0,none⟩) (Nat.le_succ H) _).setCell (p:=⟨H+1,1,none⟩) (Nat.le_succ H) _).setCell (p:=⟨H+1,2,none⟩) (Nat.le_succ H) _
end Go.Proofs.YtefokfbgpfcbkaaGreat
namespace Go.Proofs.YtefokfbgpfcbkaaGreat
open Go.RowKit
def Fk(ra:Option Addr)(vs:List Value)(g:Nat):Prop:=(∃o,ra=some ⟨g,o,none⟩)∨∃u∈vs,u.ownBlock=some g
section
variable {d:Af} {C:Nat} {W W':World} {b tb ub ob pb rc:Nat} {ra:Option Addr} {vs:List Value} {dn un:Value} {s:P33.S}
end
attribute [local go_sem] Dv
end Go.Proofs.YtefokfbgpfcbkaaGreat
namespace Go.Proofs.YtefokfbgpfcbkaaGreat
open Go.RowKit
theorem Bn.keepB{W W':World}{B n rc:Nat}{ra:Option Addr}{vs:List Value}{RS:List (List Nat)}(h:Bn W B (.slice ra n rc) vs RS)(hk:∀g,Fk ra vs g→W'.heap[g]?=W.heap[g]?):Bn W' B (.slice ra n rc) vs RS:=by
 refine⟨Du h.own (fun g hg=>hk g (.inl ?_)),h.len,fun i u l hu hl=>(h.row i u l hu hl).keep (fun g hg=>hk g (.inr ⟨u,qN hu,hg⟩)),h.apart⟩;cases ra with
 |none=>cases hg
 |some a=>
  obtain⟨q,o,x⟩:=a;cases hg;rcases h.own.2 with⟨e,_⟩|⟨g2,cap,I,e,_⟩
  ·cases e
  ·cases e;exact⟨_,rfl⟩
structure KM (M:Nat→Prop) (W:World) (M':Nat→Prop) (W':World):Prop where
 size:W.heap.size≤W'.heap.size
 same:∀g,¬M g→g<W.heap.size→W'.heap[g]?=W.heap[g]?
 sub:∀g,M' g→M g∨W.heap.size≤g
 os:W'.os=W.os
 tape:W'.tape=W.tape
 output:W'.output=W.output
theorem KM.refl(M:Nat→Prop)(W:World):KM M W M W:=⟨qJ _,fun _ _ _=>rfl,fun _ h=>.inl h,rfl,rfl,rfl⟩
theorem KM.trans{M I M2:Nat→Prop}{A B C:World}(h:KM M A I B)(k:KM I B M2 C):KM M A M2 C:=
 ⟨qK h.size k.size,fun g hg hl=>(k.same g (fun e=>(h.sub g e).elim hg (fun q=>by omega)) (zD hl h.size)).trans (h.same g hg hl),fun g hg=>(k.sub g hg).elim (fun e=>h.sub g e) (fun q=>.inr (qK h.size q)),k.os.trans h.os,k.tape.trans h.tape,k.output.trans h.output⟩
section
variable {d:Af} {C:Nat} {W W':World} {b tb ub ob pb rc:Nat} {ra:Option Addr} {vs:List Value} {dn un:Value} {s s':P33.S}
end
end Go.Proofs.YtefokfbgpfcbkaaGreat
