import Derived.Test.YtefokfbgpfcbkaaGreatRM9Z
import Derived.ProofKit
import Derived.OpenShut
import Derived.ShutString
set_option maxRecDepth 100000
namespace Go.Proofs.YtefokfbgpfcbkaaGreat.lawSagaPlays
open Go.ChangeShapes Go.WideShapes Go.ChangeAt Go.RowKit
open Go.ChangeMaps (open_string shut_string)
theorem own:ownKnob Tryz.prog.godebug=none:=by kernel_rfl
theorem laidOut:laidOutB Tryz.prog=true:=by kernel_rfl
theorem lifted(os:Os)(Z:os.Started)(H:Type)(enc:TypeId × Value→H) :
  ReturnsInHanded {} Tryz.checked os 8 .any (Rows.sagaPlaysSpec.pre6 enc Tryz.prog Tryz.f8 Rows.sagaPlaysRow.domain false) (Rows.sagaPlaysSpec.post enc Tryz.prog Tryz.f8 false true false false):=by
 refine returnsInHanded_of_change (C:=Tryz.checked) own Z (by kernel_rfl) Tryz.func8
  (ChangeSpec.witness6 (enc:=enc) (C:=Tryz.checked) false ⟨#[],#[.agg #[.string ⟨#[]⟩,.string ⟨#[]⟩,.slice none 0 0],.slice none 0 0],[]⟩ 8 (by kernel_rfl) (by kernel_rfl) (by kernel_rfl) (by kernel_rfl)) ?_
 intro W base args ds gs aH J hW aJ _;have I:∀(j:Nat) t v,Tryz.f8.params[j]?=some t→args[j]?=some v→Value.okWide Tryz.prog W .any base t v:=J;have aA:=hW;obtain⟨p,q,aG,hV,rfl,aK,aP⟩:=hW;have hA:DataW.TrodAll enc Tryz.prog W 0 (fun _=>true) true Tryz.f8.params.toList args.toList ds p:=aG;rw[Tryz.params8]at hA I;obtain⟨v0,aL,d0,aO,p0,q0,aI,rfl,rfl,h0,r0⟩:=trodAll_cons hA;obtain⟨v1,aM,d1,aN,p1,q1,rfl,rfl,rfl,h1,r1⟩:=trodAll_cons r0;obtain⟨rfl,rfl,rfl⟩:=trodAll_nil r1;obtain rfl:args=#[v0,v1]:=by cases args;simp_all
 obtain⟨rfl,rfl⟩:=trodVars_none hV;have aC:=Zu (I 0 24 v0 rfl rfl) h0;have aD:∀x∈p0,x.block<W.heap.size:=fun x hx=>by simpa using aA.lt x (by simp[hx])
 have aB:=S3 (I 1 95 v1 rfl rfl) h1;have aE:∀x∈p1,x.block<W.heap.size:=fun x hx=>by simpa using aA.lt x (by simp[hx])
 clear aG J;refine(L6 v0 v1 W aC aB).mono fun e W' ⟨he,bel⟩=>?_;subst he;exact⟨_,rfl,_,_,_,[],_,[],aA,trodAll_mk1 (shut_bool Tryz.underlying4 _),(trodAll_cons_mk (Below.trod laidOut (by kernel_rfl) (of_decide_eq_true (by kernel_rfl)) h0 bel aD) (trodAll_cons_mk (Below.trod laidOut (by kernel_rfl) (of_decide_eq_true (by kernel_rfl)) h1 bel aE) trodAll_mk0)),rfl,bel.frame _,fun h=>by cases h⟩
theorem proved:Rows.SagaPlaysSaid:=
 OpenClaim.holds_of_wide 8 Tryz.f8 rfl rfl rfl rfl rfl rfl rfl ⟨rfl,rfl,rfl,rfl,rfl⟩ rfl rfl rfl rfl rfl (by kernel_rfl) Tryz.func8 (by kernel_rfl)
  (of_decide_eq_true (by kernel_rfl)) (by unfold Func.isWrapper;first|(rw[if_pos (by decide +kernel)];kernel_rfl)|(rw[if_neg (by decide +kernel)];exact⟨rfl,rfl⟩))
  (fun os I H enc _=>lifted os I H enc)
#print axioms proved
end Go.Proofs.YtefokfbgpfcbkaaGreat.lawSagaPlays
