/- Lemmas of this claim. -/
import Derived.Test.YtnjokdbblmlhhaaGreatDoorCards
import Derived.Test.YtnjokdbblmlhhaaGreatDoorTie
import Derived.Test.YtnjokdbblmlhhaaGreatDoorGL22Y
import Derived.ProofKit
import Derived.OpenShut
import Derived.ShutString
import Derived.Deep.DeepHandedRow
import Derived.Lib.LaidTab
namespace Go.Proofs.YtnjokdbblmlhhaaGreatDoor.lawParseTexts
set_option maxRecDepth 100000
open Go.ChangeShapes Go.WideShapes Go.ChangeAt Go.RowKit
open Go.ChangeMaps (open_string shut_string)
theorem laidOut:laidOutB Tryz.prog=true:=by kernel_rfl
theorem own:ownKnob Tryz.prog.godebug=none:=by kernel_rfl
theorem contract(H:Type)(enc:TypeId × Value→H)(W:World)(base:Nat)(args:Array Value)(ds gs:List (DataW H))(G:List MemPlace)
  (D:∀(j:Nat) t v,Tryz.f8.params[j]?=some t→args[j]?=some v→Value.okWide Tryz.prog W .any base t v)
  (R:DataW.Whole enc Tryz.prog Tryz.f8.params.toList Rows.parseTextsSpec.vars false W args.toList ds gs G) :
  Calls Tryz.prog 8 args W fun e W'=>∃v,e=.returned v∧Rows.parseTextsSpec.post enc Tryz.prog Tryz.f8 false true false false W args v W':=by
 have I:∀(j:Nat) t v,Tryz.f8.params[j]?=some t→args[j]?=some v→Value.okWide Tryz.prog W .any base t v:=D;have N:=R;obtain⟨p,q,J,U,rfl,X,aA⟩:=R;have S:DataW.TrodAll enc Tryz.prog W 0 (fun _=>true) true Tryz.f8.params.toList args.toList ds p:=J;rw[Tryz.params8]at S I;obtain⟨v0,Y,d0,Z,p0,q0,Q,rfl,rfl,h0,r0⟩:=trodAll_cons S;obtain⟨rfl,rfl,rfl⟩:=trodAll_nil r0;obtain rfl:args=#[v0]:=by cases args;simp_all
 obtain⟨rfl,rfl⟩:=trodVars_none U;obtain⟨a0,rfl,rfl,rfl,w0⟩:=open_string Tryz.underlying9 (I 0 9 v0 rfl rfl) h0;clear J D;refine(X3 a0 W).mono fun e W' ⟨he,bel⟩=>?_;subst he;exact⟨_,rfl,_,_,_,[],_,[],N,trodAll_mk1 (shut_bool Tryz.underlying4 _),(trodAll_cons_mk (shut_string Tryz.underlying9 w0) trodAll_mk0),rfl,bel.frame _,fun h=>by cases h⟩
def layC(cs:Array Value):Obj→Obj
 | .cells _ t frozen=>.cells cs t frozen
 |o=>o
noncomputable def laidWorld (os:Os):World:=
 { World.holding Tryz.prog os ⟨#[],#[],[]⟩with heap:=((World.holding Tryz.prog os ⟨#[],#[],[]⟩).heap.modify 1 (layC (Go.Pinned.utf8FirstZ.map fun(n:Nat)=>Value.int .u8 n).toArray)).modify 2 (layC #[.int .u8 128,.int .u8 191,.int .u8 160,.int .u8 191,.int .u8 128,.int .u8 159,.int .u8 144,.int .u8 191,.int .u8 128,.int .u8 143,.int .u8 0,.int .u8 0,.int .u8 0,.int .u8 0,.int .u8 0,.int .u8 0,.int .u8 0,.int .u8 0,.int .u8 0,.int .u8 0,.int .u8 0,.int .u8 0,.int .u8 0,.int .u8 0,.int .u8 0,.int .u8 0,.int .u8 0,.int .u8 0,.int .u8 0,.int .u8 0,.int .u8 0,.int .u8 0]) }
theorem laid_met(os:Os):laidMet Tryz.prog Rows.parseTextsRow.laid ((laidWorld os).forCall (fun _ _=>0) ⟨#[],#[.string ⟨#[]⟩],[]⟩).memory:=
 laidMet_of_run' 8 (by kernel_rfl) (by kernel_rfl)
theorem reads(os:Os){H:Type}(enc:TypeId × Value→H):∃D,DataW.whole enc Tryz.prog ((laidWorld os).forCall (fun _ _=>0) ⟨#[],#[.string ⟨#[]⟩],[]⟩).memory Tryz.f8.params.toList Rows.parseTextsSpec.vars false #[Value.string ⟨#[]⟩].toList 8=some ([.lit (.string [])],[],D):=
 ⟨[],by kernel_rfl⟩
theorem lifted(os:Os)(D:os.Started)(H:Type)(enc:TypeId × Value→H)(F:Stop.Interp) :
  ReturnsInHanded {} Tryz.checked os 8 .any ((OpenSpec.ofChange Rows.parseTextsSpec).preRow enc Tryz.prog Tryz.f8 Rows.parseTextsRow.domain false Rows.parseTextsRow.laid) (((OpenSpec.ofChange Rows.parseTextsSpec).at F).post enc Tryz.prog Tryz.f8 false true false false):=by
 obtain⟨J,hx⟩:=reads os enc
 refine returnsInHanded_of_row (C:=Tryz.checked) (s:=OpenSpec.ofChange Rows.parseTextsSpec) own D (by kernel_rfl) Tryz.func8
  (witness_row_at (enc:=enc) (C:=Tryz.checked) false (laidWorld os) #[.string ⟨#[]⟩] rfl (by kernel_rfl) (by kernel_rfl) (by kernel_rfl)
   (OpenSpec.preRow_of_cond 8 hx (by kernel_rfl) (fun k hk=>by cases hk) (by kernel_rfl) (laid_met os))) ?_
 intro W base args ds N G I Q _ _ _ R _ _;exact contract H enc W base args ds N G I Q
theorem said:Rows.ParseTextsSaid:=
 OpenClaim.holds_of_cond 8 Tryz.f8 rfl rfl rfl rfl rfl rfl rfl ⟨rfl,rfl,rfl,rfl,rfl⟩ rfl rfl rfl rfl rfl (by kernel_rfl) Tryz.func8 (by kernel_rfl)
  (of_decide_eq_true (by kernel_rfl)) (by unfold Func.isWrapper;first|(rw[if_pos (by decide +kernel)];kernel_rfl)|(rw[if_neg (by decide +kernel)];exact⟨rfl,rfl⟩))
  (fun os D H enc _ F=>by rw[OpenClaim.pre_eq_preRow];exact lifted os D H enc F)
theorem plain(f:FuncId)(D:Func)(hf:Tryz.pinned.checked.prog.funcNamed "rescript/rescriptlaw22.ParseTexts" = some f)(G:Tryz.pinned.checked.prog.funcs[f]?=some D) :
  true=Tryz.pinned.checked.prog.looks []∧∀(j:Nat) t,D.params[j]?=some t→Tryz.pinned.checked.prog.wantsStandIn t=false:=by
 obtain rfl:f=8:=Option.some.inj ((show Tryz.prog.funcNamed "rescript/rescriptlaw22.ParseTexts" = some 8 by kernel_rfl).symm.trans hf) |>.symm;obtain rfl:D=Tryz.f8:=(Option.some.inj (Tryz.func8.symm.trans G)).symm;refine⟨by kernel_rfl,fun j t ht=>?_⟩;rw[Tryz.params8]at ht;have I:=Array.mem_of_getElem? ht;simp only[List.mem_toArray,zN,List.not_mem_nil,or_false]at I;rcases I with rfl
 ·exact(show Tryz.prog.wantsStandIn 9=false by kernel_rfl)
theorem proved:Rows.ParseTextsCardSaid:=
 Claim7.holds_tied_plain_at .later [] _ _ _ _ said (fun _ h=>by cases h) (by kernel_rfl) (fun _ h=>by cases h) parseTexts_row_tie rfl ⟨rfl,rfl⟩ (by kernel_rfl) rfl plain (by kernel_rfl)
#print axioms proved
end Go.Proofs.YtnjokdbblmlhhaaGreatDoor.lawParseTexts
