import Derived.Test.YtefokfbgpfcbkaaGreatElZ
set_option maxRecDepth 100000
set_option linter.unusedVariables false
set_option linter.unusedSimpArgs false
namespace Go.Proofs.YtefokfbgpfcbkaaGreat
namespace P28
open P22 (Def Step)
abbrev Tx:=List UInt8
abbrev Note:=Int × Int × Tx
def nt(b:Bool)(i e:Int)(t:Tx):List Note:=if b then [(i,e,t)] else []
theorem Yi{b:Bool}{i e:Int}{t:Tx}:nt b i e t=[]↔b=false:=by cases b<;>simp[nt]
def right(s:Tx):Bool:=P18.plain s&&decide (s.length≤64)
def idx:List Tx→Tx→Option Nat
 | [],_=>none
 |n::ns,x=>if n=x then some 0 else (idx ns x).map (· + 1)
theorem Ya:∀{ns:List Tx} {x:Tx} {j:Nat},idx ns x=some j→j<ns.length∧ns[j]?=some x
 | [],x,j,h=>by simp[idx]at h
 |n::ns,x,j,h=>by
  unfold idx at h;split at h
  ·rename_i e
   cases h;simp[e]
  ·cases h2:idx ns x with
   |none=>rw[h2]at h;cases h
   |some k=>
    rw[h2]at h;simp only[Option.map_some,zK]at h;subst h;obtain⟨a,b⟩:=Ya h2;exact⟨by simp;omega,by simpa using b⟩
theorem idx_none:∀{ns:List Tx} {x:Tx},idx ns x=none↔x∉ns
 | [],x=>by simp[idx]
 |n::ns,x=>by
  unfold idx;split
  ·rename_i e
   simp[e]
  ·rename_i e
   rw[Option.map_eq_none_iff,idx_none];simp only[zW,not_or];exact⟨fun h=>⟨fun h2=>e h2.symm,h⟩,fun h=>h.2⟩
theorem idx_snoc(ns:List Tx)(n x:Tx):idx (ns++[n]) x=match idx ns x with|some j=>some j|none=>if n=x then some ns.length else none:=by
 induction ns with
 |nil=>simp[idx]
 |cons m ms ih=>
  rw[zQ];unfold idx;by_cases h:m=x
  ·rw[if_pos h,if_pos h]
  ·rw[if_neg h,if_neg h,ih];cases idx ms x with
   |some j=>rfl
   |none=>
    by_cases h2:n=x
    ·simp[h2]
    ·simp[h2]
abbrev names(d:Def):List Tx:=d.steps.map (·.name)
abbrev undos(d:Def):List Tx:=d.steps.map (·.undo)
abbrev afters(d:Def):List (List Tx):=d.steps.map (·.after)
abbrev Ref:=Nat × Tx × Option Nat
def refL(ns:List Tx):Nat→List (List Tx)→List Ref
 |_,[]=>[]
 |i,a::aa=>a.map (fun x=>(i,x,idx ns x))++refL ns (i+1) aa
def addTo(i:Nat)(l:List Nat)(I:Option Nat):List Nat:=match I with
 |some j=>if j≠i∧j∉l then l++[j] else l
 |none=>l
def row(ns:List Tx)(i:Nat)(a:List Tx):List Nat:=a.foldl (fun l x=>addTo i l (idx ns x)) []
def rows(ns:List Tx):Nat→List (List Tx)→List (List Nat)
 |_,[]=>[]
 |i,a::aa=>row ns i a::rows ns (i+1) aa
def refs(d:Def):List (List Nat):=rows (names d) 0 (afters d)
theorem Qz(ns:List Tx):∀(aa:List (List Tx)) (i:Nat),(rows ns i aa).length=aa.length
 | [],i=>rfl
 |a::aa,i=>by simp[rows,Qz ns aa]
theorem refs_len(d:Def):(refs d).length=d.steps.length:=by unfold refs;rw[Qz];simp
theorem U2{i:Nat}{l:List Nat}{I:Option Nat}{j:Nat}(h:j∈addTo i l I):j∈l∨I=some j:=by
 unfold addTo at h;split at h
 ·split at h
  ·rcases zG.1 h with h|h
   ·exact .inl h
   ·simp at h;exact .inr (by rw[h])
  ·exact .inl h
 ·exact .inl h
theorem Uk{ns:List Tx}{i:Nat}:∀{a:List Tx} {l:List Nat} {j:Nat},j∈a.foldl (fun l x=>addTo i l (idx ns x)) l→j∈l∨j<ns.length
 | [],l,j,h=>.inl h
 |x::a,l,j,h=>by
  rw[List.foldl_cons]at h;rcases Uk h with h|h
  ·rcases U2 h with h|h
   ·exact .inl h
   ·exact .inr (Ya h).1
  ·exact .inr h
theorem Q0{ns:List Tx}:∀{aa:List (List Tx)} {i:Nat} {l:List Nat},l∈rows ns i aa→∀j∈l,j<ns.length
 | [],i,l,h,j,hj=>by simp[rows]at h
 |a::aa,i,l,h,j,hj=>by
  unfold rows at h;rcases zW.1 h with h|h
  ·subst h;rcases Uk hj with h|h
   ·simp at h
   ·exact h
  ·exact Q0 h j hj
theorem refs_lt{d:Def}{l:List Nat}(h:l∈refs d){j:Nat}(hj:j∈l):j<d.steps.length:=by
 have:=Q0 h j hj;simpa using this
def addRef(o:List (List Nat))(r:Ref):List (List Nat):=o.set r.1 (addTo r.1 (o.getD r.1 []) r.2.2)
theorem Eh(ns:List Tx)(i:Nat):∀(a:List Tx) (o:List (List Nat)) (l:List Nat),o[i]?=some l→(a.map (fun x=>((i,x,idx ns x):Ref))).foldl addRef o=o.set i (a.foldl (fun l x=>addTo i l (idx ns x)) l)
 | [],o,l,h=>by
  simp only[List.map_nil,List.foldl_nil];obtain⟨h1,h2⟩:=qI.1 h;rw[←h2];simp
 |x::a,o,l,h=>by
  simp only[List.map_cons,List.foldl_cons];have hl:i<o.length:=(qI.1 h).1
  have e:addRef o (i,x,idx ns x)=o.set i (addTo i l (idx ns x)):=by
   unfold addRef;simp[List.getD,h]
  rw[e,Eh ns i a _ (addTo i l (idx ns x)) (by simp[hl])];simp
theorem Hv(ns:List Tx):∀(aa:List (List Tx)) (i:Nat) (done:List (List Nat)),done.length=i→(refL ns i aa).foldl addRef (done++List.replicate aa.length [])=done++rows ns i aa
 | [],i,done,h=>by simp[refL,rows]
 |a::aa,i,done,h=>by
  unfold refL rows;rw[List.foldl_append,Eh ns i a _ [] (by rw[zA (by omega)];simp[h,List.replicate_succ])]
  have e:(done++List.replicate (a::aa).length []).set i (a.foldl (fun l x=>addTo i l (idx ns x)) [])=(done++[row ns i a])++List.replicate aa.length []:=by
   rw[List.set_append_right _ _ (by omega)];simp[h,List.replicate_succ,row]
  rw[e,Hv ns aa (i+1) (done++[row ns i a]) (by simp[h])];simp
theorem refs_fold(d:Def):(refL (names d) 0 (afters d)).foldl addRef (List.replicate d.steps.length [])=refs d:=by
 have h:=Hv (names d) (afters d) 0 [] rfl;simpa[refs]using h
def stepN(ns:List Tx)(i:Nat)(s:Step):List Note:=
 nt (!right s.name) i 18 s.name++(nt (!right s.action) i 18 s.action++(nt (!s.undo.isEmpty && !right s.undo) i 18 s.undo++nt (decide ((idx ns s.name).getD 0<i)) i 6 s.name))
def stepsN(ns:List Tx):Nat→List Step→List Note
 |_,[]=>[]
 |i,s::ss=>stepN ns i s++stepsN ns (i+1) ss
def refN(ns:List Tx)(seen:List Ref)(r:Ref):List Note:=
 nt r.2.2.isNone r.1 5 r.2.1++(nt (decide (r.2.1=ns.getD r.1 [])) r.1 8 r.2.1++nt (decide ((r.1,r.2.1)∈seen.map fun q=>(q.1,q.2.1))) r.1 6 r.2.1)
def refsN(ns:List Tx):List Ref→List Ref→List Note
 |_,[]=>[]
 |seen,r::rs=>refN ns seen r++refsN ns (seen++[r]) rs
def namesP(d:Def):List Note:=nt d.steps.isEmpty (-1) 17 []++(nt (!right d.name) (-1) 18 d.name++(stepsN (names d) 0 d.steps++refsN (names d) [] (refL (names d) 0 (afters d))))
def afterR(ns:List Tx)(i:Nat)(nm:Tx):List Tx→List Tx→List Note
 |_,[]=>[]
 |seen,x::xs=>nt (idx ns x).isNone i 5 x++(nt (decide (x=nm)) i 8 nm++(nt (decide (x∈seen)) i 6 x++afterR ns i nm (seen++[x]) xs))
def stepsR(ns:List Tx):Nat→List Step→List Note
 |_,[]=>[]
 |i,s::ss=>stepN ns i s++(afterR ns i s.name [] s.after++stepsR ns (i+1) ss)
def namesR(d:Def):List Note:=nt d.steps.isEmpty (-1) 17 []++(nt (!right d.name) (-1) 18 d.name++stepsR (names d) 0 d.steps)
theorem refsN_append(ns:List Tx):∀(a b seen:List Ref),refsN ns seen (a++b)=refsN ns seen a++refsN ns (seen++a) b
 | [],b,seen=>by simp[refsN]
 |r::a,b,seen=>by
  have I:refsN ns seen ((r::a)++b)=refN ns seen r++refsN ns (seen++[r]) (a++b):=rfl;have J:refsN ns seen (r::a)=refN ns seen r++refsN ns (seen++[r]) a:=rfl;rw[I,J,refsN_append ns a b];simp only[zH,zQ,zR]
theorem Ni(ns:List Tx)(i:Nat)(nm:Tx)(hn:ns.getD i []=nm):∀(xs I:List Tx) (seen:List Ref),(∀x,(i,x)∈seen.map (fun q=>(q.1,q.2.1))↔x∈I) →
  refsN ns seen (xs.map fun x=>((i,x,idx ns x):Ref))=afterR ns i nm I xs
 | [],I,seen,h=>by simp[refsN,afterR]
 |x::xs,I,seen,h=>by
  rw[List.map_cons];unfold refsN afterR
  rw[Ni ns i nm hn xs (I++[x]) (seen++[(i,x,idx ns x)]) (fun y=>by
   rw[List.map_append,zG,zG,h y]
   simp)]
  unfold refN;simp only[hn,h x,zH];by_cases hx:x=nm
  ·subst hx;simp
  ·simp[hx,nt]
def D0(ns:List Tx):Nat→List Step→List Note
 |_,[]=>[]
 |i,s::ss=>afterR ns i s.name [] s.after++D0 ns (i+1) ss
theorem Lk(ns:List Tx):∀(ss:List Step) (i:Nat) (seen:List Ref),(∀r∈seen,r.1<i)→(∀k s,ss[k]?=some s→ns.getD (i+k) []=s.name)→refsN ns seen (refL ns i (ss.map (·.after)))=D0 ns i ss
 | [],i,seen,h,hn=>by simp[refL,refsN,D0]
 |s::ss,i,seen,h,hn=>by
  rw[List.map_cons];unfold refL D0
  rw[refsN_append,Ni ns i s.name (hn 0 s rfl) s.after [] seen (fun x=>by
   simp only[zT,iff_false,List.mem_map,not_exists,not_and];intro q hq e;have:=h q hq;have I:=congrArg Prod.fst e;simp only at I
   omega)]
  rw[Lk ns ss (i+1) _ (fun r hr=>by
   rcases zG.1 hr with hr|hr
   ·have:=h r hr;omega
   ·obtain⟨x,_,rfl⟩:=List.mem_map.1 hr
    simp) (fun k s' hk=>by have:=hn (k+1) s' (by simpa using hk);rw[←this];congr 1;omega)]
theorem Ls(ns:List Tx):∀(ss:List Step) (i:Nat),stepsR ns i ss=[]↔stepsN ns i ss=[]∧D0 ns i ss=[]
 | [],i=>by simp[stepsR,stepsN,D0]
 |s::ss,i=>by
  unfold stepsR stepsN D0;simp only[List.append_eq_nil_iff,Ls ns ss (i+1)];constructor
  ·rintro⟨a,b,c,d⟩;exact⟨⟨a,c⟩,b,d⟩
  ·rintro⟨⟨a,c⟩,b,d⟩;exact⟨a,b,c,d⟩
theorem Wg(d:Def):refsN (names d) [] (refL (names d) 0 (afters d))=D0 (names d) 0 d.steps:=
 Lk (names d) d.steps 0 [] (by simp) (fun k s hk=>by simp[names,List.getD,hk])
theorem Vr(d:Def):namesR d=[]↔namesP d=[]:=by
 unfold namesR namesP;rw[Wg];simp only[List.append_eq_nil_iff,Ls]
def meant(x n:Int):Int:=if x=0 then n else x
def out1(x a b:Int):Bool:=!(decide (a≤x)&&decide (x≤b))
def stepB(i:Nat)(s:Step):List Note:=
 nt (out1 (meant s.tries.most 1) 1 10) i 1 [109,111,115,116]++(nt (out1 s.tries.first 0 1000) i 1 [102,105,114,115,116]++(nt (out1 (meant s.tries.factor 1) 1 10) i 1 [102,97,99,116,111,114]++nt (out1 (meant s.limit 100) 1 10000) i 1 [108,105,109,105,116]))
def stepsB:Nat→List Step→List Note
 |_,[]=>[]
 |i,s::ss=>stepB i s++stepsB (i+1) ss
def undoRow(I ns:List Tx):List Nat→List Note
 | []=>[]
 |j::l=>nt (I.getD j []).isEmpty j 19 (ns.getD j [])++undoRow I ns l
def undosP(I ns:List Tx):Nat→List (List Nat)→List Note
 |_,[]=>[]
 |k,l::ls=>(if (I.getD k []).isEmpty then [] else undoRow I ns l)++undosP I ns (k+1) ls
def boundsP(d:Def):List Note:=stepsB 0 d.steps++undosP (undos d) (names d) 0 (refs d)
def undoR(I:List Tx)(R:List (List Nat))(i:Nat)(nm:Tx):Nat→Nat→List Note
 |0,_=>[]
 |n+1,k=>nt (decide (i∈R.getD k []) && !(I.getD k []).isEmpty) i 19 nm++undoR I R i nm n (k+1)
def stepsBR(I:List Tx)(R:List (List Nat))(n:Nat):Nat→List Step→List Note
 |_,[]=>[]
 |i,s::ss=>stepB i s++((if s.undo.isEmpty then undoR I R i s.name n 0 else [])++stepsBR I R n (i+1) ss)
def boundsR(d:Def):List Note:=stepsBR (undos d) (refs d) d.steps.length 0 d.steps
theorem Gf(I ns:List Tx):∀l:List Nat,undoRow I ns l=[]↔∀j∈l,(I.getD j []).isEmpty=false
 | []=>by simp[undoRow]
 |j::l=>by
  unfold undoRow;rw[List.append_eq_nil_iff,Yi,Gf I ns l];simp
theorem Lw(I ns:List Tx):∀(ls:List (List Nat)) (k:Nat),undosP I ns k ls=[]↔∀m l,ls[m]?=some l→(I.getD (k+m) []).isEmpty=false→∀j∈l,(I.getD j []).isEmpty=false
 | [],k=>by simp[undosP]
 |l::ls,k=>by
  unfold undosP;rw[List.append_eq_nil_iff,Lw I ns ls (k+1)];constructor
  ·rintro⟨h1,h2⟩ m J hm hu j hj;cases m with
   |zero=>
    simp only[zF,zK]at hm;subst hm;rw[Nat.add_zero]at hu;rw[hu]at h1;exact(Gf I ns l).1 (by simpa using h1) j hj
   |succ m=>exact h2 m J (by simpa using hm) (by rw[show k+1+m=k+(m+1) by omega];exact hu) j hj
  ·intro h;refine⟨?_,fun m J hm hu j hj=>h (m+1) J (by simpa using hm) (by rw[show k+(m+1)=k+1+m by omega];exact hu) j hj⟩;split
   ·rfl
   ·rename_i hu
    exact(Gf I ns l).2 (h 0 l rfl (by simpa using hu))
theorem Je(I:List Tx)(R:List (List Nat))(i:Nat)(nm:Tx):∀n k:Nat,undoR I R i nm n k=[]↔∀m,k≤m→m<k+n→i∈R.getD m []→(I.getD m []).isEmpty=true
 |0,k=>by simp[undoR];omega
 |n+1,k=>by
  unfold undoR;rw[List.append_eq_nil_iff,Yi,Je I R i nm n (k+1)];constructor
  ·rintro⟨h1,h2⟩ m hk hm hi;by_cases h:m=k
   ·subst h;simp only[hi,decide_true,Bool.true_and,Bool.not_eq_false']at h1;exact h1
   ·exact h2 m (by omega) (by omega) hi
  ·intro h;refine⟨?_,fun m hk hm hi=>h m (by omega) (by omega) hi⟩;by_cases hi:i∈R.getD k []
   ·simp only[hi,decide_true,Bool.true_and,Bool.not_eq_false'];exact h k (qJ _) (by omega) hi
   ·rw[decide_eq_false hi,Bool.false_and]
theorem Jy(I:List Tx)(R:List (List Nat))(n:Nat):∀(ss:List Step) (i:Nat),stepsBR I R n i ss=[]↔stepsB i ss=[]∧∀m s,ss[m]?=some s→s.undo.isEmpty=true→∀k,k<n→i+m∈R.getD k []→(I.getD k []).isEmpty=true
 | [],i=>by simp[stepsBR,stepsB]
 |s::ss,i=>by
  unfold stepsBR stepsB;simp only[List.append_eq_nil_iff,Jy I R n ss (i+1)];constructor
  ·rintro⟨h1,h2,h3,h4⟩;refine⟨⟨h1,h3⟩,fun m s' hm hu k hk hi=>?_⟩;cases m with
   |zero=>
    simp only[zF,zK]at hm;subst hm;rw[if_pos hu]at h2;exact(Je I R i s.name n 0).1 h2 k (Nat.zero_le _) (by omega) hi
   |succ m=>exact h4 m s' (by simpa using hm) hu k hk (by rw[show i+1+m=i+(m+1) by omega];exact hi)
  ·rintro⟨⟨h1,h3⟩,h⟩;refine⟨h1,?_,h3,fun m s' hm hu k hk hi=>h (m+1) s' (by simpa using hm) hu k hk (by rw[show i+(m+1)=i+1+m by omega];exact hi)⟩;split
   ·rename_i hu
    exact(Je I R i s.name n 0).2 (fun m _ hm hi=>h 0 s rfl hu m (by omega) hi)
   ·rfl
theorem R3(d:Def):boundsR d=[]↔boundsP d=[]:=by
 unfold boundsR boundsP;rw[Jy,List.append_eq_nil_iff,Lw];have hl:=refs_len d;constructor
 ·rintro⟨h1,h2⟩;refine⟨h1,fun m l hm hu j hj=>?_⟩;have Z:m<d.steps.length:=by rw[←hl];exact(qI.1 hm).1
  have I:=refs_lt (qN hm) hj;cases hb:((undos d).getD j []).isEmpty with
  |false=>rfl
  |true=>
   have e1:d.steps[j]?=some d.steps[j]:=qO I;have:=h2 j d.steps[j] e1 (by simpa[undos,List.getD,I]using hb) m Z (by rw[Nat.zero_add,List.getD,hm];exact hj);rw[Nat.zero_add,this]at hu;cases hu
 ·rintro⟨h1,h2⟩;refine⟨h1,fun m s hm hu k hk hi=>?_⟩;rw[Nat.zero_add]at hi;cases hb:((undos d).getD k []).isEmpty with
  |true=>rfl
  |false=>
   have J:k<(refs d).length:=by omega
   have:=h2 k (refs d)[k] (qO J) (by rw[Nat.zero_add];exact hb) m (by simpa[List.getD,J]using hi);have aA:((undos d).getD m []).isEmpty=true:=by simpa[undos,List.getD,hm]using hu
   rw[aA]at this;cases this
def mayB(I:List (List Nat))(there:List Bool)(i:Nat):Bool:=(I.getD i []).all fun j=>there.getD j false
def nextFrom(I:List (List Nat))(there:List Bool):Nat→Nat→Option Nat
 |0,_=>none
 |n+1,i=>if there.getD i false=false∧mayB I there i=true then some i else nextFrom I there n (i+1)
def next(I:List (List Nat))(there:List Bool):Option Nat:=nextFrom I there I.length 0
def orderGo(I:List (List Nat)):Nat→List Bool→List Nat→List Nat
 |0,_,out=>out
 |f+1,there,out=>match next I there with
  |none=>out
  |some i=>orderGo I f (there.set i true) (out++[i])
def order(I:List (List Nat)):List Nat:=orderGo I I.length (List.replicate I.length false) []
def roundFrom(o:List Nat):Nat→Nat→List Nat
 |0,_=>[]
 |n+1,i=>(if i∈o then [] else [i])++roundFrom o n (i+1)
def round(I:List (List Nat)):List Nat:=roundFrom (order I) I.length 0
def cyc(d:Def):List Note:=(round (refs d)).map fun(i:Nat)=>((i:Int),(16:Int),(names d).getD i [])
def texts:List Tx→Int
 | []=>0
 |s::ss=>if P03.check s 64≠0 then P03.check s 64 else texts ss
def fits(x:Int):Bool:=decide (0≤x)&&decide (x≤999999999)
def noneB(n:P20.T):Bool:=n.same (.mk 0 [] [] [] 0)
def stepE(s:Step):Int:=
 if texts [s.name,s.action,s.undo]≠0 then texts [s.name,s.action,s.undo] else if 64<s.after.length then 2 else if texts s.after≠0 then texts s.after else
 if (fits s.tries.most&&(fits s.tries.first&&(fits s.tries.factor&&fits s.limit)))=false then 1 else if noneB s.note then 0 else if s.note.check 1≠0 then s.note.check 1 else if 13<(s.note.size 18).1 then 11 else 0
def stepsE:Nat→List Step→Int × Int
 |_,[]=>(0,0)
 |i,s::ss=>if stepE s≠0 then (stepE s,(i:Int)+1) else stepsE (i+1) ss
def defE(d:Def):Int × Int:=
 if P03.check d.name 64≠0 then (P03.check d.name 64,0) else if P03.check d.text 4096≠0 then (P03.check d.text 4096,0) else if 1024<d.steps.length then (2,0) else stepsE 0 d.steps
def clean(d:Def):Bool:=(namesP d).isEmpty&&((boundsP d).isEmpty&&((cyc d).isEmpty&&(defE d).1==0))
def Oe(d:Def):Bool:=(namesR d).isEmpty&&((boundsR d).isEmpty&&((cyc d).isEmpty&&(defE d).1==0))
theorem clean_eq(d:Def):Oe d=clean d:=by
 have h1:=Vr d;have h2:=R3 d;unfold Oe clean;rw[Bool.eq_iff_iff];simp only[Bool.and_eq_true,List.isEmpty_iff,h1,h2]
end P28
end Go.Proofs.YtefokfbgpfcbkaaGreat
namespace Go.Proofs.YtefokfbgpfcbkaaGreat
open Go.RowKit
def Cl{κ:Type}[DecidableEq κ]:List (κ × Value)→κ→Nat→Option (Nat × Value)
 | [],_,_=>none
 |p::L,x,i=>if x=p.1 then some (i,p.2) else Cl L x (i+1)
def lk{κ:Type}[DecidableEq κ]:List (κ × Value)→κ→Option Value
 | [],_=>none
 |p::L,x=>if x=p.1 then some p.2 else lk L x
def De{κ:Type}[DecidableEq κ]:List (κ × Value)→κ→Value→List (κ × Value)
 | [],x,v=>[(x,v)]
 |p::L,x,v=>if x=p.1 then (x,v)::L else p::De L x v
def Nq(es:Array MapEntry)(I:Nat):Prop:=(∀e∈es.toList,e.born<I)∧(es.toList.map (·.born)).Nodup
theorem Nq.push{es:Array MapEntry}{I:Nat}(h:Nq es I)(k v:Value):Nq (es.push { key:=k,val:=v,born:=I }) (I+1):=by
 refine⟨fun e J=>?_,?_⟩
 ·rw[Array.toList_push]at J;rcases zG.1 J with J|J
  ·have:=h.1 e J;omega
  ·simp at J;subst J;exact Nat.lt_succ_self _
 ·rw[Array.toList_push,List.map_append,List.nodup_append];refine⟨h.2,by simp,fun x hx y hy e=>?_⟩;obtain⟨a,ha,rfl⟩:=List.mem_map.1 hx;have:=h.1 a ha;simp at hy;omega
theorem K6{α β:Type}(g:α→β)(f:α→α)(hf:∀x,g (f x)=g x):∀(l:List α) (i:Nat),(l.modify i f).map g=l.map g
 | [],i=>by simp
 |x::l,0=>by simp[hf]
 |x::l,i+1=>by simp[K6 g f hf l i]
theorem Nq.modify{es:Array MapEntry}{I:Nat}(h:Nq es I)(i:Nat)(f:MapEntry→MapEntry)(hf:∀e,(f e).born=e.born):Nq (es.modify i f) I:=by
 have hm:(es.modify i f).toList.map (·.born)=es.toList.map (·.born):=by rw[Array.toList_modify];exact K6 _ f hf _ i
 refine⟨fun e J=>?_,by rw[hm];exact h.2⟩;have h1:e.born∈(es.modify i f).toList.map (·.born):=List.mem_map_of_mem J;rw[hm]at h1;obtain⟨a,ha,hb⟩:=List.mem_map.1 h1;rw[←hb];exact h.1 a ha
def Bi{κ:Type}(enc:κ→Value)(W:World)(bm:Nat)(L:List (κ × Value)):Prop:=
 ∃es I,W.heap[bm]?=some (.map es I)∧Nq es I∧es.toList.map (fun e=>(e.key,e.val))=L.map fun p=>(enc p.1,p.2)
theorem Bi.keep{κ:Type}{enc:κ→Value}{W W':World}{bm:Nat}{L:List (κ × Value)}(h:Bi enc W bm L)(hb:W'.heap[bm]?=W.heap[bm]?):Bi enc W' bm L:=by
 obtain⟨es,I,h1,h0,h2⟩:=h;exact⟨es,I,hb.trans h1,h0,h2⟩
theorem Bi.lt{κ:Type}{enc:κ→Value}{W:World}{bm:Nat}{L:List (κ × Value)}(h:Bi enc W bm L):bm<W.heap.size:=by
 obtain⟨es,I,h1,h0,h2⟩:=h;exact(qA.1 h1).1
section
variable {κ:Type} [DecidableEq κ]
theorem Ou:∀(L:List (κ × Value)) (x:κ) (i:Nat),lk L x=(Cl L x i).map (·.2)
 | [],x,i=>rfl
 |p::L,x,i=>by
  unfold lk Cl;split
  ·rfl
  ·exact Ou L x (i+1)
theorem F5:∀(L:List (κ × Value)) (x:κ) (v:Value) (y:κ),lk (De L x v) y=if y=x then some v else lk L y
 | [],x,v,y=>by simp[De,lk]
 |p::L,x,v,y=>by
  unfold De;by_cases h:x=p.1
  ·rw[if_pos h];by_cases hy:y=x
   ·simp[lk,hy]
   ·have I:¬y=p.1:=fun e=>hy (e.trans h.symm);simp[lk,hy,I]
  ·rw[if_neg h];unfold lk;rw[F5 L x v y];by_cases hp:y=p.1
   ·have hy:¬y=x:=fun e=>h (e.symm.trans hp);simp[hp,hy];intro e;exact absurd e.symm h
   ·simp[hp]
theorem Hj:∀{L:List (κ × Value)} {x:κ} {i j:Nat} {v:Value},Cl L x i=some (j,v)→∃J I,L=J++(x,v)::I∧j=i+J.length∧∀u,De L x u=J++(x,u)::I
 | [],x,i,j,v,h=>by simp[Cl]at h
 |p::L,x,i,j,v,h=>by
  unfold Cl at h;split at h
  ·rename_i e
   simp only[zK,Prod.mk.injEq]at h;obtain⟨rfl,rfl⟩:=h;exact⟨[],L,by simp[e],by simp,fun u=>by simp[De,e]⟩
  ·rename_i e
   obtain⟨J,I,h1,h2,h3⟩:=Hj h;exact⟨p::J,I,by rw[h1];rfl,by simp only[qE];omega,fun u=>by simp[De,e,h3 u]⟩
theorem E6:∀{L:List (κ × Value)} {x:κ} {i:Nat},Cl L x i=none→∀u,De L x u=L++[(x,u)]
 | [],x,i,h,u=>rfl
 |p::L,x,i,h,u=>by
  unfold Cl at h;split at h
  ·cases h
  ·rename_i e
   simp[De,e,E6 h u]
structure Ea (P:Program) (kt:TypeId) (enc:κ→Value):Prop where
 chk:∀x e W,(Instr.checkKey e 10000 kt (enc x)).run P W=.ok () W
 find:∀(x:κ) (L:List (κ × Value)) (es:List MapEntry) W,es.map (fun e=>(e.key,e.val))=L.map (fun p=>(enc p.1,p.2))→(Instr.findKey kt (enc x) es).run P W=.ok (Cl L x 0) W
 bits:∀x,Instr.sameBits 10000 (enc x) (enc x)=true
theorem Jn{P:Program}{kt:TypeId}{enc:κ→Value}(I:∀x y W,(Op.equal kt (enc x) (enc y)).run P W=.ok (decide (x=y)) W)(x:κ)(W:World):∀(L:List (κ × Value)) (es:List MapEntry) (i:Nat),es.map (fun e=>(e.key,e.val))=L.map (fun p=>(enc p.1,p.2)) →
  (Instr.findAsking kt (enc x) es i).run P W=.ok (Cl L x i) W
 | [],es,i,h=>by
  have:es=[]:=by simpa using h
  subst this;simp[Instr.findAsking,Cl]
 |p::L,es,i,h=>by
  cases es with
  |nil=>simp at h
  |cons e es=>
   simp only[List.map_cons,List.cons.injEq,Prod.mk.injEq]at h;obtain⟨⟨h1,h2⟩,h3⟩:=h;unfold Instr.findAsking Cl;rw[h1];by_cases hx:x=p.1
   ·simp[I,hx,Result.andThen,h2]
   ·simp[I,hx,Result.andThen,Jn I x W L es (i+1) h3]
theorem Ea.wide{P:Program}{kt:TypeId}{enc:κ→Value}(hw:(match P.underlying kt with|some (.array _ _)|some (.struct _)=>true|_=>false)=true)
  (I:∀x e W,(Instr.checkKey e 10000 kt (enc x)).run P W=.ok () W) (J:∀x y W,(Op.equal kt (enc x) (enc y)).run P W=.ok (decide (x=y)) W) (hb:∀x,Instr.sameBits 10000 (enc x) (enc x)=true):Ea P kt enc:=
 ⟨I,fun x L es W h=>by rw[run_findKey_eq W hw];exact Jn J x W L es 0 h,hb⟩
theorem Ea.plain{P:Program}{kt:TypeId}{d:TypeDesc}{enc:κ→Value}(hd:P.underlying kt=some d)(hk:∀x,Go.MapKept.IsKey d (enc x))(hs:∀x y,Instr.sameNow d (enc x) (enc y)=some (decide (x=y))):Ea P kt enc where
 chk:=fun x e W=>Go.MapKept.run_checkKey hd (hk x) e 9999
 bits:=fun x=>Go.MapKept.sameBits_self (hk x) 10000
 find:=fun x L es W h=>by
  refine Go.MapKept.run_findKey hd ?_
  have:∀(L:List (κ × Value)) (es:List MapEntry) (i:Nat),es.map (fun e=>(e.key,e.val))=L.map (fun p=>(enc p.1,p.2))→Instr.findNow d (enc x) es i=some (Cl L x i):=by
   intro L
   induction L with
   |nil=>
    intro es i h;have:es=[]:=by simpa using h
    subst this;rfl
   |cons p L ih=>
    intro es i h;cases es with
    |nil=>simp at h
    |cons e es=>
     simp only[List.map_cons,List.cons.injEq,Prod.mk.injEq]at h;obtain⟨⟨h1,h2⟩,h3⟩:=h;unfold Instr.findNow Cl;rw[h1,hs];by_cases hx:x=p.1
     ·simp[hx,h2]
     ·simp[hx,ih es (i+1) h3]
  exact this L es 0 h
theorem Bi.look{P:Program}{mt kt et:TypeId}{enc:κ→Value}{W:World}{bm:Nat}{L:List (κ × Value)}(h:Bi enc W bm L)(K:Ea P kt enc)(hu:P.underlying mt=some (.map kt et)){z:Value}(hz:(zeroValue et).run P W=.ok z W)(x:κ)(ok:Bool) :
  (Instr.lookup mt (.map (some bm)) (enc x) ok).run P W=.ok (if ok then .tuple #[(lk L x).getD z,.bool (lk L x).isSome] else (lk L x).getD z) W:=by
 obtain⟨es,J,h1,h0,h2⟩:=h;have Z:=K.chk x es.isEmpty W;have I:=K.find x L es.toList W h2;rw[Ou L x 0];cases hp:Cl L x 0 with
 |none=>
  rw[hp]at I;simp[Instr.lookup,run_underlying hu,Go.MapKept.run_getObj_map h1,Z,I,hz,Result.andThen]
 |some r=>
  rw[hp]at I;simp[Instr.lookup,run_underlying hu,Go.MapKept.run_getObj_map h1,Z,I,Result.andThen]
theorem E5{α:Type}(f:α→α):∀(a:List α) (x:α) (b:List α),(a++x::b).modify a.length f=a++f x::b
 | [],x,b=>by simp
 |y::a,x,b=>by simp[E5 f a x b]
theorem I3{α β:Type}{g:α→β}:∀{l:List α} {a:List β} {x:β} {b:List β},l.map g=a++x::b→∃I y lb,l=I++y::lb∧I.map g=a∧g y=x∧lb.map g=b
 |l,[],x,b,h=>by
  cases l with
  |nil=>simp at h
  |cons y l=>
   simp only[List.map_cons,zR,List.cons.injEq]at h;exact⟨[],y,l,rfl,rfl,h.1,h.2⟩
 |l,c::a,x,b,h=>by
  cases l with
  |nil=>simp at h
  |cons y l=>
   simp only[List.map_cons,zQ,List.cons.injEq]at h;obtain⟨I,z,lb,h1,h2,h3,h4⟩:=I3 h.2;exact⟨y::I,z,lb,by rw[h1];rfl,by rw[List.map_cons,h.1,h2],h3,h4⟩
theorem Bi.put{P:Program}{mt kt et:TypeId}{enc:κ→Value}{W:World}{bm:Nat}{L:List (κ × Value)}(h:Bi enc W bm L)(K:Ea P kt enc)(hu:P.underlying mt=some (.map kt et))(x:κ)(v:Value) :
  ∃W',(Instr.mapUpdate mt (.map (some bm)) (enc x) v).run P W=.ok () W'∧Bi enc W' bm (De L x v)∧W.grownBy W' (some bm)∧W'.heap.size=W.heap.size∧(∀g,g≠bm→W'.heap[g]?=W.heap[g]?):=by
 obtain⟨es,J,h1,h0,h2⟩:=h;have aE:=(qA.1 h1).1;have e1:=K.chk x false W;have e2:=K.find x L es.toList W h2
 have key:∀Z I,Nq Z I→Z.toList.map (fun e:MapEntry=>(e.key,e.val))=(De L x v).map (fun p=>(enc p.1,p.2))→∃W',({ W with heap:=W.heap.setIfInBounds bm (.map Z I) }:World)=W'∧Bi enc W' bm (De L x v)∧W.grownBy W' (some bm)∧W'.heap.size=W.heap.size∧(∀g,g≠bm→W'.heap[g]?=W.heap[g]?):=by
  intro Z I aD he;refine⟨_,rfl,⟨Z,I,by simp[aE],aD,he⟩,⟨rfl,rfl,rfl,by simp,fun g hg hn=>?_⟩,by simp,fun g hg=>?_⟩
  ·have:g≠bm:=fun e=>hn (by rw[e]);simp[Ne.symm this]
  ·simp[Ne.symm hg]
 cases hp:Cl L x 0 with
 |none=>
  rw[hp]at e2;obtain⟨W',hW,hr⟩:=key (es.push { key:=enc x,val:=v,born:=J }) (J+1) (h0.push _ _) (by rw[E6 hp v];simp[h2]);exact⟨W',by rw[←hW];simp[Instr.mapUpdate,run_underlying hu,Go.MapKept.run_getObj_map h1,e1,e2,Go.MapKept.run_setObj_map _ h1,Result.andThen],hr⟩
 |some r=>
  obtain⟨j,u⟩:=r;rw[hp]at e2;obtain⟨aH,aG,q1,q2,q3⟩:=Hj hp;rw[q1,List.map_append,List.map_cons]at h2;obtain⟨la,y,lb,r1,r2,r3,r4⟩:=I3 h2
  have aA:la.length=j:=by
   have:=congrArg List.length r2;simp only[qX]at this;omega
  simp only[Prod.mk.injEq]at r3
  have hj:es[j]?=some y:=by
   rw[←Array.getElem?_toList,r1,←aA];simp
  obtain⟨W',hW,hr⟩:=key (es.modify j fun e=>{ e with key:=enc x,val:=v }) J (h0.modify _ _ (fun _=>rfl)) (by
   rw[q3 v,Array.toList_modify,r1,←aA,E5]
   simp[r2,r4])
  have aB:(Instr.keyThatStays (enc x) (enc x)).run P W=.ok (enc x) W:=by
   unfold Instr.keyThatStays;simp[K.bits x]
  have aC:((es[j]?.map (·.key)).getD (enc x))=enc x:=by rw[hj];simp[r3.1]
  refine⟨W',?_,hr⟩;rw[←hW];simp[Instr.mapUpdate,run_underlying hu,Go.MapKept.run_getObj_map h1,e1,e2,aC,aB,Go.MapKept.run_setObj_map _ h1,Result.andThen]
theorem Vi{l:List MapEntry}(hn:(l.map (·.born)).Nodup){a:List MapEntry}{y:MapEntry}{b:List MapEntry}(h:l=a++y::b):l.findIdx? (fun e=>(e.born:Int)==(y.born:Int))=some a.length:=by
 subst h;rw[List.map_append,List.nodup_append]at hn
 have h1:a.findIdx? (fun e=>(e.born:Int)==(y.born:Int))=none:=by
  rw[List.findIdx?_eq_none_iff];intro x hx;have:=hn.2.2 x.born (List.mem_map_of_mem hx) y.born (by simp);simp;omega
 rw[List.findIdx?_append,h1];simp[List.findIdx?_cons]
theorem Bi.entry{P:Program}{mt kt et:TypeId}{enc:κ→Value}{W:World}{bm:Nat}{L:List (κ × Value)}(h:Bi enc W bm L)(K:Ea P kt enc)(hu:P.underlying mt=some (.map kt et)){z:Value}(hz:(zeroValue et).run P W=.ok z W)(x:κ) :
  ∃W' st,(Instr.mapEntry mt (.map (some bm)) (enc x)).run P W=.ok (.tuple #[(lk L x).getD z,.int .i64 st]) W'∧Bi enc W' bm (De L x ((lk L x).getD z))∧W.grownBy W' (some bm)∧W'.heap.size=W.heap.size∧(∀g,g≠bm→W'.heap[g]?=W.heap[g]?) ∧
   ∀W2 v,W2.heap[bm]?=W'.heap[bm]?→∃W3,(Instr.entryStore mt (.map (some bm)) (.int .i64 st) v).run P W2=.ok () W3∧Bi enc W3 bm (De L x v)∧W2.grownBy W3 (some bm)∧W3.heap.size=W2.heap.size∧(∀g,g≠bm→W3.heap[g]?=W2.heap[g]?):=by
 obtain⟨es,I,h1,h0,h2⟩:=h;have aC:=(qA.1 h1).1;have e1:=K.chk x false W;have e2:=K.find x L es.toList W h2
 -- a store into the entry behind which 'pre' stand
 have store:∀(W2:World) (aA:Array MapEntry) (J:Nat) (aB Z:List (κ × Value)) (a:List MapEntry) (y:MapEntry) (b:List MapEntry) (v:Value),W2.heap[bm]?=some (.map aA J)→Nq aA J→aA.toList=a++y::b→a.map (fun e=>(e.key,e.val))=aB.map (fun p=>(enc p.1,p.2))→b.map (fun e=>(e.key,e.val))=Z.map (fun p=>(enc p.1,p.2))→y.key=enc x→De L x v=aB++(x,v)::Z →
   ∃W3,(Instr.entryStore mt (.map (some bm)) (.int .i64 y.born) v).run P W2=.ok () W3∧Bi enc W3 bm (De L x v)∧W2.grownBy W3 (some bm)∧W3.heap.size=W2.heap.size∧(∀g,g≠bm→W3.heap[g]?=W2.heap[g]?):=by
  intro W2 aA J aB Z a y b v hW hB hl ha hb hk hp;have aI:=(qA.1 hW).1
  have aK:aA.findIdx? (fun e=>(e.born:Int)==(y.born:Int))=some a.length:=by
   have h9:=Vi hB.2 hl;obtain⟨l9⟩:=aA;simpa using h9
  refine⟨{ W2 with heap:=W2.heap.setIfInBounds bm (.map (aA.modify a.length fun e=>{ e with val:=v }) J) },?_,⟨aA.modify a.length fun e=>{ e with val:=v },J,by simp[aI],hB.modify _ _ (fun _=>rfl),?_⟩,⟨rfl,rfl,rfl,by simp,fun g hg hn=>?_⟩,by simp,fun g hg=>?_⟩
  ·simp[Instr.entryStore,Go.MapKept.run_getObj_map hW,asInt,asIntOf,aK,Go.MapKept.run_setObj_map _ hW,Result.andThen]
  ·rw[Array.toList_modify,hl,E5,hp];simp[ha,hb,hk]
  ·have:g≠bm:=fun e=>hn (by rw[e]);simp[Ne.symm this]
  ·simp[Ne.symm hg]
 cases hp:Cl L x 0 with
 |none=>
  rw[hp]at e2;have hlk:lk L x=none:=by rw[Ou L x 0,hp];rfl
  rw[hlk];refine⟨{ W with heap:=W.heap.setIfInBounds bm (.map (es.push { key:=enc x,val:=z,born:=I }) (I+1)) },I,?_,⟨es.push { key:=enc x,val:=z,born:=I },I+1,by simp[aC],h0.push _ _,?_⟩,⟨rfl,rfl,rfl,by simp,fun g hg hn=>?_⟩,by simp,fun g hg=>?_,fun W2 v aE=>?_⟩
  ·simp[Instr.mapEntry,run_underlying hu,Go.MapKept.run_getObj_map h1,e1,e2,hz,Go.MapKept.run_setObj_map _ h1,Result.andThen,goInt]
  ·rw[Option.getD_none,E6 hp z];simp[h2]
  ·have:g≠bm:=fun e=>hn (by rw[e]);simp[Ne.symm this]
  ·simp[Ne.symm hg]
  ·exact store W2 (es.push { key:=enc x,val:=z,born:=I }) (I+1) L [] es.toList { key:=enc x,val:=z,born:=I } [] v (by rw[aE];simp[aC]) (h0.push _ _) (by simp) h2 rfl rfl (by rw[E6 hp v])
 |some r=>
  obtain⟨j,u⟩:=r;rw[hp]at e2;have hlk:lk L x=some u:=by rw[Ou L x 0,hp];rfl
  rw[hlk];obtain⟨aB,Z,q1,q2,q3⟩:=Hj hp;have aH:=h2;rw[q1,List.map_append,List.map_cons]at aH;obtain⟨la,y,lb,r1,r2,r3,r4⟩:=I3 aH
  have aD:la.length=j:=by
   have:=congrArg List.length r2;simp only[qX]at this;omega
  simp only[Prod.mk.injEq]at r3
  have hj:es[j]?=some y:=by
   rw[←Array.getElem?_toList,r1,←aD];simp
  have aL:(Instr.keyThatStays (enc x) (enc x)).run P W=.ok (enc x) W:=by
   unfold Instr.keyThatStays;simp[K.bits x]
  have aM:((es[j]?.map (·.key)).getD (enc x))=enc x:=by rw[hj];simp[r3.1]
  have aJ:((es[j]?.map (·.born)).getD 0)=y.born:=by rw[hj];rfl
  have aG:(es.modify j fun e=>{ e with key:=enc x }).toList=la++{ y with key:=enc x }::lb:=by rw[Array.toList_modify,r1,←aD,E5]
  refine⟨{ W with heap:=W.heap.setIfInBounds bm (.map (es.modify j fun e=>{ e with key:=enc x }) I) },y.born,?_,⟨es.modify j fun e=>{ e with key:=enc x },I,by simp[aC],h0.modify _ _ (fun _=>rfl),?_⟩,⟨rfl,rfl,rfl,by simp,fun g hg hn=>?_⟩,by simp,fun g hg=>?_,fun W2 v aE=>?_⟩
  ·simp[Instr.mapEntry,run_underlying hu,Go.MapKept.run_getObj_map h1,e1,e2,aM,aJ,aL,hj,r3.1,Go.MapKept.run_setObj_map _ h1,Result.andThen,goInt]
  ·rw[aG,Option.getD_some,q3 u];simp[r2,r3.2,r4]
  ·have:g≠bm:=fun e=>hn (by rw[e]);simp[Ne.symm this]
  ·simp[Ne.symm hg]
  ·exact store W2 (es.modify j fun e=>{ e with key:=enc x }) I aB Z la { y with key:=enc x } lb v (by rw[aE];simp[aC]) (h0.modify _ _ (fun _=>rfl)) aG r2 r4 rfl (q3 v)
theorem Ip{P:Program}{mt kt et:TypeId}{enc:κ→Value}{W:World}{bm:Nat}{L:List (κ × Value)}{ops:Array Oper}{rest:List Oper}{o:Oper}{a:Act}{Q:Exit→Act→World→Prop}(hg:o.guard=none)(m x:Operand)(ok:Bool)(Z:o.op=Op.lookup mt m x ok)
  (h:Bi enc W bm L) (K:Ea P kt enc) (hu:P.underlying mt=some (.map kt et)) {z:Value} (hz:(zeroValue et).run P W=.ok z W) (hm:a.eval m=.map (some bm)) (k:κ) (hx:a.eval x=enc k)
  (hK:wpList P ops Q rest (a.put o.dst (if ok then .tuple #[(lk L k).getD z,.bool (lk L k).isSome] else (lk L k).getD z)) W):wpList P ops Q (o::rest) a W:=by
 refine wpList_plain hg fun K' J=>?_;have I:=h.look K hu hz k ok;obtain⟨r,hr⟩:=qeX ((if ok=true then Value.tuple #[(lk L k).getD z,.bool (lk L k).isSome] else (lk L k).getD z));rw[hr]at I hK;unfold Oper.wp;simp[execOp,Z,hm,hx,I,Result.andThen];exact J _ _ hK
theorem Lx{F:Fence}{n:Nat}{P:Program}{mt kt et:TypeId}{enc:κ→Value}{W:World}{bm:Nat}{L:List (κ × Value)}{ops:Array Oper}{rest:List Oper}{o:Oper}{a:Act}{Q:Exit→Act→World→Prop}(hg:o.guard=none)(m x:Operand)(ok:Bool)(J:o.op=Op.lookup mt m x ok)
  (h:Bi enc W bm L) (K:Ea P kt enc) (hu:P.underlying mt=some (.map kt et)) {z:Value} (hz:(zeroValue et).run P W=.ok z W) (hm:a.eval m=.map (some bm)) (k:κ) (hx:a.eval x=enc k)
  (hK:wpListIn F n P ops Q rest (a.put o.dst (if ok then .tuple #[(lk L k).getD z,.bool (lk L k).isSome] else (lk L k).getD z)) W):wpListIn F n P ops Q (o::rest) a W:=by
 refine wpListIn_plain hg fun K' aA=>?_;have I:=h.look K hu hz k ok;unfold Oper.wpIn;refine⟨by simp[Oper.about,J],?_⟩;rw[Oper.semAt_plain F _ _ (by rw[J];intro c Z;cases Z)];obtain⟨r,hr⟩:=qeX ((if ok=true then Value.tuple #[(lk L k).getD z,.bool (lk L k).isSome] else (lk L k).getD z));rw[hr]at I hK;simp[execOp,J,hm,hx,I,Result.andThen];exact aA _ _ hK
theorem J3{P:Program}{mt kt et:TypeId}{enc:κ→Value}{W:World}{bm:Nat}{L:List (κ × Value)}{ops:Array Oper}{rest:List Oper}{o:Oper}{a:Act}{Q:Exit→Act→World→Prop}(hg:o.guard=none)(m x v:Operand)(Z:o.op=Op.mapUpdate mt m x v)
  (h:Bi enc W bm L) (K:Ea P kt enc) (hu:P.underlying mt=some (.map kt et)) (hm:a.eval m=.map (some bm)) (k:κ) (hx:a.eval x=enc k) (val:Value) (hv:a.eval v=val)
  (hK:∀W',Bi enc W' bm (De L k val)→W.grownBy W' (some bm)→W'.heap.size=W.heap.size→(∀g,g≠bm→W'.heap[g]?=W.heap[g]?)→wpList P ops Q rest (a.put o.dst undef) W'):wpList P ops Q (o::rest) a W:=by
 refine wpList_plain hg fun K' J=>?_;obtain⟨W',I,r1,r2,r3,r4⟩:=h.put K hu k val;unfold Oper.wp;simp[execOp,Z,hm,hx,hv,I,Result.andThen];exact J _ _ (hK W' r1 r2 r3 r4)
theorem G8{P:Program}{mt kt J:TypeId}{enc:κ→Value}{W:World}{bm:Nat}{L:List (κ × Value)}{ops:Array Oper}{rest:List Oper}{o:Oper}{a:Act}{Q:Exit→Act→World→Prop}(hg:o.guard=none)(m x:Operand)(I:o.op=Op.lookup mt m x true)
  (h:Bi enc W bm L) (K:Ea P kt enc) (hu:P.underlying mt=some (.map kt J)) {z:Value} (Z:(zeroValue J).run P W=.ok z W) (hm:a.eval m=.map (some bm)) (k:κ) (hx:a.eval x=enc k) {r:Option Value} (hr:lk L k=r)
  (hK:wpList P ops Q rest (a.put o.dst (.tuple #[(r.getD z),.bool r.isSome])) W):wpList P ops Q (o::rest) a W:=by
 subst hr;exact Ip hg m x true I h K hu Z hm k hx hK
theorem Cy{P:Program}{mt kt J:TypeId}{enc:κ→Value}{W:World}{bm:Nat}{L:List (κ × Value)}{ops:Array Oper}{rest:List Oper}{o:Oper}{a:Act}{Q:Exit→Act→World→Prop}(hg:o.guard=none)(m x:Operand)(I:o.op=Op.lookup mt m x false)
  (h:Bi enc W bm L) (K:Ea P kt enc) (hu:P.underlying mt=some (.map kt J)) {z:Value} (Z:(zeroValue J).run P W=.ok z W) (hm:a.eval m=.map (some bm)) (k:κ) (hx:a.eval x=enc k) {r:Option Value} (hr:lk L k=r)
  (hK:wpList P ops Q rest (a.put o.dst (r.getD z)) W):wpList P ops Q (o::rest) a W:=by
 subst hr;exact Ip hg m x false I h K hu Z hm k hx hK
theorem Fs{F:Fence}{n:Nat}{P:Program}{mt kt J:TypeId}{enc:κ→Value}{W:World}{bm:Nat}{L:List (κ × Value)}{ops:Array Oper}{rest:List Oper}{o:Oper}{a:Act}{Q:Exit→Act→World→Prop}(hg:o.guard=none)(m x:Operand)(I:o.op=Op.lookup mt m x true)
  (h:Bi enc W bm L) (K:Ea P kt enc) (hu:P.underlying mt=some (.map kt J)) {z:Value} (Z:(zeroValue J).run P W=.ok z W) (hm:a.eval m=.map (some bm)) (k:κ) (hx:a.eval x=enc k) {r:Option Value} (hr:lk L k=r)
  (hK:wpListIn F n P ops Q rest (a.put o.dst (.tuple #[(r.getD z),.bool r.isSome])) W):wpListIn F n P ops Q (o::rest) a W:=by
 subst hr;exact Lx hg m x true I h K hu Z hm k hx hK
end
def L8(x:List UInt8):Value:=.string ⟨x.toArray⟩
theorem Qc{P:Program}{kt:TypeId}(hd:P.underlying kt=some .string):Ea P kt L8:=
 .plain hd (fun x=>by simp[Go.MapKept.IsKey,L8]) (fun x y=>by
  simp only[Instr.sameNow,L8,zK];rw[Bool.eq_iff_iff,Go.MapKept.bytes_beq,decide_eq_true_iff];constructor
  ·intro e;injection e with e;simpa using congrArg Array.toList e
  ·rintro rfl;rfl)
end Go.Proofs.YtefokfbgpfcbkaaGreat
