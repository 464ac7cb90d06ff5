/- Lemmas of this claim. -/
import Derived.Test.YtnjokdbblmlhhaaGreatDoorW22aZ
import Derived.Test.YtnjokdbblmlhhaaGreatDoorWR20wZ
import Derived.Test.YtnjokdbblmlhhaaGreatDoorW22sZ
import Derived.Test.YtnjokdbblmlhhaaGreatDoorPlain20fZ
namespace Go.Proofs.YtnjokdbblmlhhaaGreatDoor
set_option linter.unusedVariables false
set_option linter.unusedSimpArgs false
open Go.RowKit
def Rq {α:Type} (r:Except P22.F α) (v:α) (e l:Int):Prop:=(r=.ok v∧e=0∧l=0)∨(r=.error (e,l)∧e≠0)
set_option maxRecDepth 100000 in
set_option maxHeartbeats 4000000 in
theorem N0 (k:Nat) (t:List UInt8) (ka:Option Addr) (kc:Nat) (ks:List (List UInt8)) (da:Option Addr) (dc:Nat) (ds:List Nd) (l:Int) (w:World) :
  Calls Tryz.prog 59 #[.agg #[.int .u8 k,.string ⟨t.toArray⟩,.slice ka ks.length kc,.slice da ds.length dc,.int .i64 l],.int .u8 3,.int .i64 0] w fun x w'=>x=.returned (if k≠3 then fV 7 l else if ks.length≠ds.length then fV 3 l else fV 0 0)∧Below w.heap.size w w':=by
 obtain ⟨H,hH⟩:∃ H,w.heap.size=H:=⟨_,rfl⟩
 obtain ⟨W0,hW0,hb0,g0,g1,hs0⟩:=A0 w (.cells #[.int .u8 k,.string ⟨t.toArray⟩,.slice ka ks.length kc,.slice da ds.length dc,.int .i64 l] 26) (.cells #[.int .i64 0,.int .i64 0] 29) H hH
 have x0:=Ad g0
 have y0:=Af g1
 obtain ⟨M,hM⟩:∃ M,ks.length=M:=⟨_,rfl⟩
 obtain ⟨D,hD⟩:∃ D,ds.length=D:=⟨_,rfl⟩
 rw [hM,hD] at hW0 g0 x0 ⊢
 clear hM hD
 have HW0:=Ab hW0
 have HB0:=Ab hb0
 have HG0:=Ab g0
 have HG1:=Ab g1
 clear hW0 hb0 g0 g1
 by_cases hk:k=3
 ·rw [if_neg (by simpa using hk)]
  have j0:((k:Int) != 3)=false:=by simp;omega
  clear hk
  by_cases hn:M=D
  ·subst hn
   rw [if_neg (by simp)]
   have j1:((M:Int) != M)=false:=by simp
   go_enter Tryz.func59,Tryz.ntmps59
   go_upto_region 1 with fail
   try rw [hH]
   rw [Aa HW0]
   go_wp2
   exact bodyPost_ret (Av rfl _ _ _ (H+1) _ rfl (Ai (A3 (Aa HG1) _ _))) rfl ⟨rfl,by rw [hH];first | exact Ax (Aa HB0) (show H≤H+1 by omega) _ _ | exact Ax (Aa HB0).drew (show H≤H+1 by omega) _ _⟩
  ·rw [if_pos hn]
   have j1:((M:Int) != D)=true:=by simp;omega
   clear hn
   go_enter Tryz.func59,Tryz.ntmps59
   go_upto_region 1 with fail
   try rw [hH]
   rw [Aa HW0]
   go_wp2
   exact bodyPost_ret (Av rfl _ _ _ (H+1) _ rfl (Ai (A3 (Aa HG1) _ _))) rfl ⟨rfl,by rw [hH];first | exact Ax (Aa HB0) (show H≤H+1 by omega) _ _ | exact Ax (Aa HB0).drew (show H≤H+1 by omega) _ _⟩
 ·rw [if_pos hk]
  have j1:((k:Int) != 3)=true:=by simp;omega
  clear hk
  go_enter Tryz.func59,Tryz.ntmps59
  go_upto_region 1 with fail
  try rw [hH]
  rw [Aa HW0]
  go_wp2
  exact bodyPost_ret (Av rfl _ _ _ (H+1) _ rfl (Ai (A3 (Aa HG1) _ _))) rfl ⟨rfl,by rw [hH];first | exact Ax (Aa HB0) (show H≤H+1 by omega) _ _ | exact Ax (Aa HB0).drew (show H≤H+1 by omega) _ _⟩
set_option maxRecDepth 100000 in
set_option maxHeartbeats 4000000 in
theorem Iy (k:Nat) (t:List UInt8) (ka:Option Addr) (kc:Nat) (ks:List (List UInt8)) (da:Option Addr) (dc:Nat) (ds:List Nd) (l:Int) (m:Nat) (w:World) :
  Calls Tryz.prog 59 #[.agg #[.int .u8 k,.string ⟨t.toArray⟩,.slice ka ks.length kc,.slice da ds.length dc,.int .i64 l],.int .u8 2,.int .i64 m] w fun x w'=>x=.returned (if k≠2 then fV 7 l else if m<ds.length then fV 2 l else fV 0 0)∧Below w.heap.size w w':=by
 obtain ⟨H,hH⟩:∃ H,w.heap.size=H:=⟨_,rfl⟩
 obtain ⟨W0,hW0,hb0,g0,g1,hs0⟩:=A0 w (.cells #[.int .u8 k,.string ⟨t.toArray⟩,.slice ka ks.length kc,.slice da ds.length dc,.int .i64 l] 26) (.cells #[.int .i64 0,.int .i64 0] 29) H hH
 have x0:=Ad g0
 have y0:=Af g1
 obtain ⟨M,hM⟩:∃ M,ks.length=M:=⟨_,rfl⟩
 obtain ⟨D,hD⟩:∃ D,ds.length=D:=⟨_,rfl⟩
 rw [hM,hD] at hW0 g0 x0 ⊢
 clear hM hD
 have HW0:=Ab hW0
 have HB0:=Ab hb0
 have HG0:=Ab g0
 have HG1:=Ab g1
 clear hW0 hb0 g0 g1
 by_cases hk:k=2
 ·rw [if_neg (by simpa using hk)]
  have j0:((k:Int) != 2)=false:=by simp;omega
  clear hk
  by_cases hn:m<D
  ·rw [if_pos hn]
   have j1:(m:Int)<(D:Int):=by omega
   have j2:decide ((m:Int)<(D:Int))=true:=by simp;omega
   clear hn
   go_enter Tryz.func59,Tryz.ntmps59
   go_upto_region 1 with fail
   try rw [hH]
   rw [Aa HW0]
   go_wp2
   exact bodyPost_ret (Av rfl _ _ _ (H+1) _ rfl (Ai (A3 (Aa HG1) _ _))) rfl ⟨rfl,by rw [hH];first | exact Ax (Aa HB0) (show H≤H+1 by omega) _ _ | exact Ax (Aa HB0).drew (show H≤H+1 by omega) _ _⟩
  ·rw [if_neg hn]
   have j1:(D:Int)≤(m:Int):=by omega
   have j2:decide ((m:Int)<(D:Int))=false:=by simp;omega
   clear hn
   go_enter Tryz.func59,Tryz.ntmps59
   go_upto_region 1 with fail
   try rw [hH]
   rw [Aa HW0]
   go_wp2
   exact bodyPost_ret (Av rfl _ _ _ (H+1) _ rfl (Ai (A3 (Aa HG1) _ _))) rfl ⟨rfl,by rw [hH];first | exact Ax (Aa HB0) (show H≤H+1 by omega) _ _ | exact Ax (Aa HB0).drew (show H≤H+1 by omega) _ _⟩
 ·rw [if_pos hk]
  have j1:((k:Int) != 2)=true:=by simp;omega
  clear hk
  go_enter Tryz.func59,Tryz.ntmps59
  go_upto_region 1 with fail
  try rw [hH]
  rw [Aa HW0]
  go_wp2
  exact bodyPost_ret (Av rfl _ _ _ (H+1) _ rfl (Ai (A3 (Aa HG1) _ _))) rfl ⟨rfl,by rw [hH];first | exact Ax (Aa HB0) (show H≤H+1 by omega) _ _ | exact Ax (Aa HB0).drew (show H≤H+1 by omega) _ _⟩
set_option maxRecDepth 100000 in
set_option maxHeartbeats 4000000 in
theorem Ei (k:Nat) (t:List UInt8) (ka:Option Addr) (kc:Nat) (ks:List (List UInt8)) (da:Option Addr) (dc:Nat) (ds:List Nd) (l:Int) (most:Int) (hok:t.length≤1000000) :
  ∃ v e l',(∀ w:World,Calls Tryz.prog 60 #[.agg #[.int .u8 k,.string ⟨t.toArray⟩,.slice ka ks.length kc,.slice da ds.length dc,.int .i64 l],.int .i64 most] w fun x w'=>x=.returned (.tuple #[.string ⟨(v:List UInt8).toArray⟩,fV e l'])∧Below w.heap.size w w')∧Rq (P22.textE most (Nd.mk k t ka kc ks da dc ds l).bare) v e l':=by
 have hsp:P22.textE most (Nd.mk k t ka kc ks da dc ds l).bare=(if k≠1 then .error (7,l) else if P03.check t most≠0 then .error (P03.check t most,l) else .ok t):=by
  simp only [Nd.bare]
  rfl
 rw [hsp]
 clear hsp
 by_cases hk:k=1
 ·rw [if_neg (by simpa using hk)]
  have hck:=fun w=>Dm ⟨t.toArray⟩ most w (by rw [Lib.size_eq];show t.length≤1100000;omega)
  simp only [Vv] at hck
  obtain ⟨e,he⟩:∃ e,P03.check t most=e:=⟨_,rfl⟩
  rw [he]
  simp only [he] at hck
  clear he
  have HCK:=Ab hck
  have jk:((k:Int) != 1)=false:=by simp;omega
  clear hck hk
  by_cases h0:e=0
  ·subst h0
   refine ⟨t,0,0,fun w=>?_,.inl ⟨by simp,rfl,rfl⟩⟩
   obtain ⟨H,hH⟩:∃ H,w.heap.size=H:=⟨_,rfl⟩
   obtain ⟨W0,hW0,hb0,g0,g1,hs0⟩:=A0 w (.cells #[.int .u8 k,.string ⟨t.toArray⟩,.slice ka ks.length kc,.slice da ds.length dc,.int .i64 l] 26) (.cells #[.int .i64 0,.int .i64 0] 29) H hH
   have x0:=Ad g0
   have y0:=Af g1
   have HW0:=Ab hW0
   have HB0:=Ab hb0
   have HG0:=Ab g0
   have HG1:=Ab g1
   clear hW0 hb0 g0 g1
   have HCW:=Ab (Aa HCK W0)
   clear HCK
   go_enter Tryz.func60,Tryz.ntmps60
   go_upto_region 1 with fail
   try rw [hH]
   rw [Aa HW0]
   go_wp2_with (go_at_call 84;refine (Aa HCW).mono ?_;rintro x3 w3 ⟨rfl,rfl⟩)
   refine bodyPost_ret (As rfl _ _ _ (H+1) _ rfl (Ai (A3 (Aa HG1) _ _))) rfl ⟨rfl,by rw [hH];first | exact Ax (Aa HB0) (show H≤H+1 by omega) _ _ | exact Ax (Aa HB0).drew (show H≤H+1 by omega) _ _⟩
  ·refine ⟨[],e,l,fun w=>?_,.inr ⟨by rw [if_pos h0],h0⟩⟩
   obtain ⟨H,hH⟩:∃ H,w.heap.size=H:=⟨_,rfl⟩
   obtain ⟨W0,hW0,hb0,g0,g1,hs0⟩:=A0 w (.cells #[.int .u8 k,.string ⟨t.toArray⟩,.slice ka ks.length kc,.slice da ds.length dc,.int .i64 l] 26) (.cells #[.int .i64 0,.int .i64 0] 29) H hH
   have x0:=Ad g0
   have y0:=Af g1
   have HW0:=Ab hW0
   have HB0:=Ab hb0
   have HG0:=Ab g0
   have HG1:=Ab g1
   clear hW0 hb0 g0 g1
   have HCW:=Ab (Aa HCK W0)
   have je:(e != 0)=true:=by simpa using h0
   have hmx:=Dl
   clear HCK h0
   go_enter Tryz.func60,Tryz.ntmps60
   go_upto_region 1 with fail
   try rw [hH]
   rw [Aa HW0]
   go_upto_region 5 with (go_at_call 84;refine (Aa HCW).mono ?_;rintro x3 w3 ⟨rfl,rfl⟩)
   go_region
   all_goals go_wp2
   all_goals exact bodyPost_ret (As rfl _ _ _ (H+1) _ rfl (Ai (A3 (Aa HG1) _ _))) rfl ⟨rfl,by rw [hH];first | exact Ax (Aa HB0) (show H≤H+1 by omega) _ _ | exact Ax (Aa HB0).drew (show H≤H+1 by omega) _ _⟩
 ·refine ⟨[],7,l,fun w=>?_,.inr ⟨by rw [if_pos hk],by decide⟩⟩
  obtain ⟨H,hH⟩:∃ H,w.heap.size=H:=⟨_,rfl⟩
  obtain ⟨W0,hW0,hb0,g0,g1,hs0⟩:=A0 w (.cells #[.int .u8 k,.string ⟨t.toArray⟩,.slice ka ks.length kc,.slice da ds.length dc,.int .i64 l] 26) (.cells #[.int .i64 0,.int .i64 0] 29) H hH
  have x0:=Ad g0
  have y0:=Af g1
  have HW0:=Ab hW0
  have HB0:=Ab hb0
  have HG0:=Ab g0
  have HG1:=Ab g1
  clear hW0 hb0 g0 g1
  have j1:((k:Int) != 1)=true:=by simp;omega
  have hmx:=Dl
  clear hk
  go_enter Tryz.func60,Tryz.ntmps60
  go_upto_region 1 with fail
  try rw [hH]
  rw [Aa HW0]
  go_upto_region 2 with fail
  go_region
  all_goals go_wp2
  all_goals exact bodyPost_ret (As rfl _ _ _ (H+1) _ rfl (Ai (A3 (Aa HG1) _ _))) rfl ⟨rfl,by rw [hH];first | exact Ax (Aa HB0) (show H≤H+1 by omega) _ _ | exact Ax (Aa HB0).drew (show H≤H+1 by omega) _ _⟩
set_option maxRecDepth 100000 in
set_option maxHeartbeats 4000000 in
theorem Ex (k:Nat) (t:List UInt8) (ka:Option Addr) (kc:Nat) (ks:List (List UInt8)) (da:Option Addr) (dc:Nat) (ds:List Nd) (l:Int) (hok:t.length≤100000) :
  ∃ v e l',(∀ w:World,Calls Tryz.prog 96 #[.agg #[.int .u8 k,.string ⟨t.toArray⟩,.slice ka ks.length kc,.slice da ds.length dc,.int .i64 l]] w fun x w'=>x=.returned (.tuple #[.int .i64 v,fV e l'])∧Below w.heap.size w w')∧Rq (P22.numE (Nd.mk k t ka kc ks da dc ds l).bare) v e l':=by
 have hsp:P22.numE (Nd.mk k t ka kc ks da dc ds l).bare=(if k≠1 then .error (7,l) else if (P18.number t).2≠0 then .error ((P18.number t).2,l) else .ok (P18.number t).1):=by
  simp only [Nd.bare]
  rfl
 rw [hsp]
 clear hsp
 by_cases hk:k=1
 ·rw [if_neg (by simpa using hk)]
  have hck:=fun w=>Jr ⟨t.toArray⟩ w (by rw [Lib.size_eq];show t.length≤100000;omega)
  simp only [Vv] at hck
  obtain ⟨v,hv⟩:∃ v,(P18.number t).1=v:=⟨_,rfl⟩
  obtain ⟨e,he⟩:∃ e,(P18.number t).2=e:=⟨_,rfl⟩
  rw [he,hv]
  simp only [he,hv] at hck
  clear he hv
  have HCK:=Ab hck
  have jk:((k:Int) != 1)=false:=by simp;omega
  clear hck hk
  by_cases h0:e=0
  ·subst h0
   refine ⟨v,0,0,fun w=>?_,.inl ⟨by simp,rfl,rfl⟩⟩
   obtain ⟨H,hH⟩:∃ H,w.heap.size=H:=⟨_,rfl⟩
   obtain ⟨W0,hW0,hb0,g0,g1,hs0⟩:=A0 w (.cells #[.int .u8 k,.string ⟨t.toArray⟩,.slice ka ks.length kc,.slice da ds.length dc,.int .i64 l] 26) (.cells #[.int .i64 0,.int .i64 0] 29) H hH
   have x0:=Ad g0
   have y0:=Af g1
   have HW0:=Ab hW0
   have HB0:=Ab hb0
   have HG0:=Ab g0
   have HG1:=Ab g1
   clear hW0 hb0 g0 g1
   have HCW:=Ab (Aa HCK W0)
   clear HCK
   go_enter Tryz.func96,Tryz.ntmps96
   go_upto_region 1 with fail
   try rw [hH]
   rw [Aa HW0]
   go_wp2_with (go_at_call 25;refine (Aa HCW).mono ?_;rintro x3 w3 ⟨rfl,rfl⟩)
   refine bodyPost_ret (As rfl _ _ _ (H+1) _ rfl (Ai (A3 (Aa HG1) _ _))) rfl ⟨rfl,by rw [hH];first | exact Ax (Aa HB0) (show H≤H+1 by omega) _ _ | exact Ax (Aa HB0).drew (show H≤H+1 by omega) _ _⟩
  ·refine ⟨0,e,l,fun w=>?_,.inr ⟨by rw [if_pos h0],h0⟩⟩
   obtain ⟨H,hH⟩:∃ H,w.heap.size=H:=⟨_,rfl⟩
   obtain ⟨W0,hW0,hb0,g0,g1,hs0⟩:=A0 w (.cells #[.int .u8 k,.string ⟨t.toArray⟩,.slice ka ks.length kc,.slice da ds.length dc,.int .i64 l] 26) (.cells #[.int .i64 0,.int .i64 0] 29) H hH
   have x0:=Ad g0
   have y0:=Af g1
   have HW0:=Ab hW0
   have HB0:=Ab hb0
   have HG0:=Ab g0
   have HG1:=Ab g1
   clear hW0 hb0 g0 g1
   have HCW:=Ab (Aa HCK W0)
   have je:(e != 0)=true:=by simpa using h0
   have hmx:=Dl
   clear HCK h0
   go_enter Tryz.func96,Tryz.ntmps96
   go_upto_region 1 with fail
   try rw [hH]
   rw [Aa HW0]
   go_upto_region 5 with (go_at_call 25;refine (Aa HCW).mono ?_;rintro x3 w3 ⟨rfl,rfl⟩)
   go_region
   all_goals go_wp2
   all_goals exact bodyPost_ret (As rfl _ _ _ (H+1) _ rfl (Ai (A3 (Aa HG1) _ _))) rfl ⟨rfl,by rw [hH];first | exact Ax (Aa HB0) (show H≤H+1 by omega) _ _ | exact Ax (Aa HB0).drew (show H≤H+1 by omega) _ _⟩
 ·refine ⟨0,7,l,fun w=>?_,.inr ⟨by rw [if_pos hk],by decide⟩⟩
  obtain ⟨H,hH⟩:∃ H,w.heap.size=H:=⟨_,rfl⟩
  obtain ⟨W0,hW0,hb0,g0,g1,hs0⟩:=A0 w (.cells #[.int .u8 k,.string ⟨t.toArray⟩,.slice ka ks.length kc,.slice da ds.length dc,.int .i64 l] 26) (.cells #[.int .i64 0,.int .i64 0] 29) H hH
  have x0:=Ad g0
  have y0:=Af g1
  have HW0:=Ab hW0
  have HB0:=Ab hb0
  have HG0:=Ab g0
  have HG1:=Ab g1
  clear hW0 hb0 g0 g1
  have j1:((k:Int) != 1)=true:=by simp;omega
  have hmx:=Dl
  clear hk
  go_enter Tryz.func96,Tryz.ntmps96
  go_upto_region 1 with fail
  try rw [hH]
  rw [Aa HW0]
  go_upto_region 2 with fail
  go_region
  all_goals go_wp2
  all_goals exact bodyPost_ret (As rfl _ _ _ (H+1) _ rfl (Ai (A3 (Aa HG1) _ _))) rfl ⟨rfl,by rw [hH];first | exact Ax (Aa HB0) (show H≤H+1 by omega) _ _ | exact Ax (Aa HB0).drew (show H≤H+1 by omega) _ _⟩
set_option maxRecDepth 100000 in
set_option maxHeartbeats 4000000 in
theorem Ji (k:Nat) (t:List UInt8) (ka:Option Addr) (kc:Nat) (ks:List (List UInt8)) (da:Option Addr) (dc:Nat) (ds:List Nd) (l:Int) (x:List UInt8) (w:World) (h:Eu w ka ks) (hl:ks.length≤100000000) :
  Calls Tryz.prog 62 #[.agg #[.int .u8 k,.string ⟨t.toArray⟩,.slice ka ks.length kc,.slice da ds.length dc,.int .i64 l],.string ⟨x.toArray⟩] w fun e w'=>e=.returned (.bool (decide (x∈ks)))∧Below w.heap.size w w':=by
 obtain ⟨H,hH⟩:∃ H,w.heap.size=H:=⟨_,rfl⟩
 obtain ⟨W0,hW0⟩:∃ W0,w.alloc (.cells #[.int .u8 k,.string ⟨t.toArray⟩,.slice ka ks.length kc,.slice da ds.length dc,.int .i64 l] 26)=W0:=⟨_,rfl⟩
 have hb0:Below w.heap.size w W0:=by rw [← hW0];exact (Below.refl _ w).alloc (Nat.le_refl _) _
 have g0:W0.heap[H]?=some (.cells #[.int .u8 k,.string ⟨t.toArray⟩,.slice ka ks.length kc,.slice da ds.length dc,.int .i64 l] 26):=by rw [← hW0,← hH];exact World.alloc_heap_new _ _
 obtain ⟨n,hn⟩:∃ n,ks.length=n:=⟨_,rfl⟩
 rw [hn] at hl hW0 g0 ⊢
 have x0:=Ad g0
 have h0:=Eu.below h hb0
 have HN:=Ab hn
 have HI:=Ab h0
 have HW0:=Ab hW0
 have HB0:=Ab hb0
 clear hn h h0 hW0 g0 hb0
 go_enter Tryz.func62,Tryz.ntmps62
 go_upto_region 1 with fail
 try rw [hH]
 try rw [Aa HW0]
 go_wp2
 go_loopg [5] n (fun g s5 wx=>∃ i:Nat,i+g=n∧s5=.int .i64 i∧Hid (decide (x∈ks)=decide (x∈ks.drop i))∧W0=wx)
 case atStart=>exact ⟨0,by omega,by go_num,Ab rfl,rfl⟩
 case round=>
  obtain ⟨i,hig,rfl,HD,rfl⟩:=hrel
  cases gk with
  | zero=>
   have e1:(n:Int)=(i:Int):=by omega
   have HE:=Ab (show i=n by omega)
   go_wp2
   go_ret
   refine ⟨Bn ?_,Aa HB0⟩
   rw [Aa HD,List.drop_of_length_le (by rw [Aa HN];have:=Aa HE;omega)]
   rfl
  | succ g'=>
   have hlt:(i:Int)<(n:Int):=by omega
   have hki:IntKind.i64.wrap ((i:Int)+1)=(i:Int)+1:=IntWalk.i64_in _ (by omega)
   have hil:i<ks.length:=by rw [Aa HN];omega
   obtain ⟨y,hy⟩:∃ y,ks[i]=y:=⟨_,rfl⟩
   obtain ⟨b,o,rfl,hc⟩:=Aa HI i y (by rw [List.getElem?_eq_getElem hil,hy])
   have hd:ks.drop i=y :: ks.drop (i+1):=by rw [List.drop_eq_getElem_cons hil,hy]
   have HQ:=Ab hd
   clear hd hy
   by_cases hxy:y=x
   ·subst hxy
    go_wp2
    go_ret
    refine ⟨Bn ?_,Aa HB0⟩
    rw [Aa HD,Aa HQ]
    simp
   ·have HX:=Ab hxy
    have hbe:(y == x)=false:=by simpa using hxy
    clear hxy
    go_wp2
    go_roundg g'
    case measure=>omega
    case rel=>
     refine ⟨i+1,by omega,by go_num,Ab ?_,rfl⟩
     rw [Aa HD,Aa HQ]
     have:=Aa HX
     simp [Ne.symm this]
end Go.Proofs.YtnjokdbblmlhhaaGreatDoor
namespace Go.Proofs.YtnjokdbblmlhhaaGreatDoor
set_option linter.unusedVariables false
set_option linter.unusedSimpArgs false
open Go.RowKit
theorem Hm {W:World} {g:Nat} {u0 u1 u2 u3 u4:Value} (h:W.heap[g]?=some (.cells #[u0,u1,u2,u3,u4] 26)):(loadVar 26 ⟨g,0,none⟩).run Tryz.prog W=.ok (.agg #[u0,u1,u2,u3,u4]) W:=run_loadVar_row _ _ _ _ _ _ _ h Tryz.underlying26 rfl (by kernel_rfl)
theorem Ns {B g:Nat} {w W:World} (h:Below B w W) (hg:B≤g) (v0 v1 v2 v3 v4:Value):Below B w (((((W.setCell ⟨g,0,none⟩ v0).setCell ⟨g,1,none⟩ v1).setCell ⟨g,2,none⟩ v2).setCell ⟨g,3,none⟩ v3).setCell ⟨g,4,none⟩ v4):=
 ((((h.setCell (p:=⟨g,0,none⟩) hg _).setCell (p:=⟨g,1,none⟩) hg _).setCell (p:=⟨g,2,none⟩) hg _).setCell (p:=⟨g,3,none⟩) hg _).setCell (p:=⟨g,4,none⟩) hg _
theorem Rh {B g1 g2:Nat} {w W:World} {a0 a1 a2 a3 a4 b0 b1:Value} (hb:Below B w W) (h1:W.heap[g1]?=some (.cells #[a0,a1,a2,a3,a4] 26)) (h2:W.heap[g2]?=some (.cells #[b0,b1] 29)) (hB1:B≤g1) (hB2:B≤g2) (hne:g1≠g2) (v0 v1 v2 v3 v4 e l:Value) :
  Below B w (((((((W.setCell ⟨g1,0,none⟩ v0).setCell ⟨g1,1,none⟩ v1).setCell ⟨g1,2,none⟩ v2).setCell ⟨g1,3,none⟩ v3).setCell ⟨g1,4,none⟩ v4).setCell ⟨g2,0,none⟩ e).setCell ⟨g2,1,none⟩ l)∧(((((((W.setCell ⟨g1,0,none⟩ v0).setCell ⟨g1,1,none⟩ v1).setCell ⟨g1,2,none⟩ v2).setCell ⟨g1,3,none⟩ v3).setCell ⟨g1,4,none⟩ v4).setCell ⟨g2,0,none⟩ e).setCell ⟨g2,1,none⟩ l).heap[g1]?=some (.cells #[v0,v1,v2,v3,v4] 26)∧(((((((W.setCell ⟨g1,0,none⟩ v0).setCell ⟨g1,1,none⟩ v1).setCell ⟨g1,2,none⟩ v2).setCell ⟨g1,3,none⟩ v3).setCell ⟨g1,4,none⟩ v4).setCell ⟨g2,0,none⟩ e).setCell ⟨g2,1,none⟩ l).heap[g2]?=some (.cells #[e,l] 29):=by
 have q1:=Ns hb hB1 v0 v1 v2 v3 v4
 have q2:=B9 h1 v0 v1 v2 v3 v4
 have q3:=(Az (W:=W) (g:=g1) (Ne.symm hne) v0 v1 v2 v3 v4).trans h2
 refine ⟨Ax q1 hB2 e l,?_,?_⟩
 ·exact (Ar hne e l).trans q2
 ·exact A3 q3 e l
theorem F2 (W:World):W.drew.heap=W.heap:=rfl
theorem Pd {B g1 g2:Nat} {w W:World} {a0 a1 a2 a3 a4 b0 b1:Value} (hb:Below B w W) (h1:W.heap[g1]?=some (.cells #[a0,a1,a2,a3,a4] 26)) (h2:W.heap[g2]?=some (.cells #[b0,b1] 29)) (hB1:B≤g1) (hB2:B≤g2) (hne:g1≠g2) (v0 v1 v2 v3 v4 e l:Value) :
  Below B w (((((((W.setCell ⟨g1,0,none⟩ v0).setCell ⟨g1,1,none⟩ v1).setCell ⟨g1,2,none⟩ v2).setCell ⟨g1,3,none⟩ v3).setCell ⟨g1,4,none⟩ v4).setCell ⟨g2,0,none⟩ e).setCell ⟨g2,1,none⟩ l).drew∧(((((((W.setCell ⟨g1,0,none⟩ v0).setCell ⟨g1,1,none⟩ v1).setCell ⟨g1,2,none⟩ v2).setCell ⟨g1,3,none⟩ v3).setCell ⟨g1,4,none⟩ v4).setCell ⟨g2,0,none⟩ e).setCell ⟨g2,1,none⟩ l).drew.heap[g1]?=some (.cells #[v0,v1,v2,v3,v4] 26)∧(((((((W.setCell ⟨g1,0,none⟩ v0).setCell ⟨g1,1,none⟩ v1).setCell ⟨g1,2,none⟩ v2).setCell ⟨g1,3,none⟩ v3).setCell ⟨g1,4,none⟩ v4).setCell ⟨g2,0,none⟩ e).setCell ⟨g2,1,none⟩ l).drew.heap[g2]?=some (.cells #[e,l] 29):=by
 have q:=Rh hb h1 h2 hB1 hB2 hne v0 v1 v2 v3 v4 e l
 rw [F2]
 exact ⟨q.1.drew,q.2⟩
set_option maxRecDepth 100000 in
set_option maxHeartbeats 8000000 in
theorem Ra (k:Nat) (t:List UInt8) (ka:Option Addr) (kc:Nat) (ks:List (List UInt8)) (da:Option Addr) (dc:Nat) (ds:List Nd) (l:Int) (hs:Sk (Nd.mk k t ka kc ks da dc ds l).bare) (hz:((Nd.mk k t ka kc ks da dc ds l).bare.size 18).2≤1000000000) :
  ∃ e l',(∀ w:World,(Nd.mk k t ka kc ks da dc ds l).In w→Calls Tryz.prog 97 #[.agg #[.int .u8 k,.string ⟨t.toArray⟩,.slice ka ks.length kc,.slice da ds.length dc,.int .i64 l]] w fun x w'=>x=.returned (.tuple #[.agg #[.int .u8 k,.string ⟨t.toArray⟩,.slice ka ks.length kc,.slice da ds.length dc,.int .i64 l],fV e l'])∧Below w.heap.size w w')∧Rq (P22.noteE (Nd.mk k t ka kc ks da dc ds l).bare) (Nd.mk k t ka kc ks da dc ds l).bare e l':=by
 have hck:=fun w hin=>L7 (Nd.mk k t ka kc ks da dc ds l) w hin hs
 have hsz:=fun w hin=>Pz (Nd.mk k t ka kc ks da dc ds l) 18 w hin (by omega) hz
 rw [Nd.val_eq] at hck hsz
 obtain ⟨c,hc⟩:∃ c,(Nd.mk k t ka kc ks da dc ds l).bare.check 1=c:=⟨_,rfl⟩
 obtain ⟨dd,hdd⟩:∃ dd,((Nd.mk k t ka kc ks da dc ds l).bare.size 18).1=dd:=⟨_,rfl⟩
 obtain ⟨nn,hnn⟩:∃ nn,((Nd.mk k t ka kc ks da dc ds l).bare.size 18).2=nn:=⟨_,rfl⟩
 have hln:(Nd.mk k t ka kc ks da dc ds l).bare.line=l:=rfl
 unfold P22.noteE
 rw [hc,hdd,hln]
 rw [hc] at hck
 rw [hdd,hnn] at hsz
 have HCK:=Ab hck
 have HSZ:=Ab hsz
 clear hck hsz hc hdd hnn hs hz hln
 by_cases h0:c=0
 ·subst h0
  rw [if_neg (by simp)]
  by_cases h1:13<dd
  ·rw [if_pos h1]
   refine ⟨11,l,fun w hin=>?_,.inr ⟨rfl,by decide⟩⟩
   obtain ⟨H,hH⟩:∃ H,w.heap.size=H:=⟨_,rfl⟩
   obtain ⟨W0,hW0⟩:∃ W0,((w.alloc (.cells #[.int .u8 k,.string ⟨t.toArray⟩,.slice ka ks.length kc,.slice da ds.length dc,.int .i64 l] 26)).alloc (.cells #[.int .u8 0,.string ⟨#[]⟩,.slice none 0 0,.slice none 0 0,.int .i64 0] 26)).alloc (.cells #[.int .i64 0,.int .i64 0] 29)=W0:=⟨_,rfl⟩
   obtain ⟨hb0,hs0,ha0⟩:=Cf [.cells #[.int .u8 k,.string ⟨t.toArray⟩,.slice ka ks.length kc,.slice da ds.length dc,.int .i64 l] 26,.cells #[.int .u8 0,.string ⟨#[]⟩,.slice none 0 0,.slice none 0 0,.int .i64 0] 26,.cells #[.int .i64 0,.int .i64 0] 29] w
   rw [show ([.cells #[.int .u8 k,.string ⟨t.toArray⟩,.slice ka ks.length kc,.slice da ds.length dc,.int .i64 l] 26,.cells #[.int .u8 0,.string ⟨#[]⟩,.slice none 0 0,.slice none 0 0,.int .i64 0] 26,.cells #[.int .i64 0,.int .i64 0] 29]:List Obj).foldl World.alloc w=W0 from hW0,hH] at hb0 hs0 ha0
   replace hs0:W0.heap.size=H+1+1+1:=hs0
   have g0:W0.heap[H]?=some (.cells #[.int .u8 k,.string ⟨t.toArray⟩,.slice ka ks.length kc,.slice da ds.length dc,.int .i64 l] 26):=ha0 0 _ rfl
   have g1:W0.heap[H+1]?=some (.cells #[.int .u8 0,.string ⟨#[]⟩,.slice none 0 0,.slice none 0 0,.int .i64 0] 26):=ha0 1 _ rfl
   have g2:W0.heap[H+1+1]?=some (.cells #[.int .i64 0,.int .i64 0] 29):=ha0 2 _ rfl
   have HW0:=Ab hW0
   have HB0:=Ab hb0
   have HG0:=Ab g0
   have HG1:=Ab g1
   have HG2:=Ab g2
   have hmx:=Dl
   clear hW0 hb0 g0 g1 g2 ha0
   have HIN:=Ab hin
   have j1:(13:Int)<(dd:Int):=by omega
   clear h1 hin
   go_enter Tryz.func97,Tryz.ntmps97
   go_upto_region 1 with fail
   try rw [hH]
   rw [Aa HW0]
   have x0:=Ad (Aa HG0)
   go_upto_region 6 with (first
    | (go_at_call 17;refine (Aa HCK W0 ((Aa HIN).below (by rw [hH];exact Aa HB0))).mono ?_;rintro x2 w2 ⟨rfl,hb2⟩;have hz2:=hb2.size;have r0:=(hb2.block H (by omega)).trans (Aa HG0);have r1:=(hb2.block (H+1) (by omega)).trans (Aa HG1);have r2:=(hb2.block (H+1+1) (by omega)).trans (Aa HG2);have z0:=Ad r0;have HB2:=Ab hb2;have HR0:=Ab r0;have HR1:=Ab r1;have HR2:=Ab r2;clear hb2 r0 r1 r2)
    | (go_at_call 18;refine (Aa HSZ w2 ((Aa HIN).below (by rw [hH];exact (Aa HB0).trans ((Aa HB2).mono (by omega))))).mono ?_;rintro x3 w3 ⟨rfl,hb3⟩;have hz3:=hb3.size;have y1:=(hb3.block (H+1) (by omega)).trans (Aa HR1);have y2:=(hb3.block (H+1+1) (by omega)).trans (Aa HR2);have y0:=(hb3.block H (by omega)).trans (Aa HR0);have HB3:=Ab hb3;have HY1:=Ab y1;have HY2:=Ab y2;have HY0:=Ab y0;clear hb3 y0 y1 y2))
   have v0:=Ad (Aa HY0)
   have v1:=Ad (Aa HY1)
   have v2:=Af (Aa HY2)
   go_region_with_o (fail)
   all_goals go_wp2
   all_goals (have HE:=Ab (Pd (B:=H) (g1:=H+1) (g2:=H+1+1) (w:=w) ((Aa HB0).trans (((Aa HB2).mono (by omega)).trans ((Aa HB3).mono (by omega)))) (Aa HY1) (Aa HY2) (by omega) (by omega) (by omega) (.int .u8 k) (.string ⟨t.toArray⟩) (.slice ka ks.length kc) (.slice da ds.length dc) (.int .i64 l) (.int .i64 11) (.int .i64 l));exact bodyPost_ret (Al rfl _ _ _ (H+1) (H+1+1) _ _ rfl (Hm (Aa HE).2.1) rfl (Ai (Aa HE).2.2)) rfl ⟨rfl,by rw [hH];exact (Aa HE).1⟩)
  ·rw [if_neg h1]
   refine ⟨0,0,fun w hin=>?_,.inl ⟨rfl,rfl,rfl⟩⟩
   obtain ⟨H,hH⟩:∃ H,w.heap.size=H:=⟨_,rfl⟩
   obtain ⟨W0,hW0⟩:∃ W0,((w.alloc (.cells #[.int .u8 k,.string ⟨t.toArray⟩,.slice ka ks.length kc,.slice da ds.length dc,.int .i64 l] 26)).alloc (.cells #[.int .u8 0,.string ⟨#[]⟩,.slice none 0 0,.slice none 0 0,.int .i64 0] 26)).alloc (.cells #[.int .i64 0,.int .i64 0] 29)=W0:=⟨_,rfl⟩
   obtain ⟨hb0,hs0,ha0⟩:=Cf [.cells #[.int .u8 k,.string ⟨t.toArray⟩,.slice ka ks.length kc,.slice da ds.length dc,.int .i64 l] 26,.cells #[.int .u8 0,.string ⟨#[]⟩,.slice none 0 0,.slice none 0 0,.int .i64 0] 26,.cells #[.int .i64 0,.int .i64 0] 29] w
   rw [show ([.cells #[.int .u8 k,.string ⟨t.toArray⟩,.slice ka ks.length kc,.slice da ds.length dc,.int .i64 l] 26,.cells #[.int .u8 0,.string ⟨#[]⟩,.slice none 0 0,.slice none 0 0,.int .i64 0] 26,.cells #[.int .i64 0,.int .i64 0] 29]:List Obj).foldl World.alloc w=W0 from hW0,hH] at hb0 hs0 ha0
   replace hs0:W0.heap.size=H+1+1+1:=hs0
   have g0:W0.heap[H]?=some (.cells #[.int .u8 k,.string ⟨t.toArray⟩,.slice ka ks.length kc,.slice da ds.length dc,.int .i64 l] 26):=ha0 0 _ rfl
   have g1:W0.heap[H+1]?=some (.cells #[.int .u8 0,.string ⟨#[]⟩,.slice none 0 0,.slice none 0 0,.int .i64 0] 26):=ha0 1 _ rfl
   have g2:W0.heap[H+1+1]?=some (.cells #[.int .i64 0,.int .i64 0] 29):=ha0 2 _ rfl
   have HW0:=Ab hW0
   have HB0:=Ab hb0
   have HG0:=Ab g0
   have HG1:=Ab g1
   have HG2:=Ab g2
   have hmx:=Dl
   clear hW0 hb0 g0 g1 g2 ha0
   have HIN:=Ab hin
   have j1:(dd:Int)≤(13:Int):=by omega
   clear h1 hin
   go_enter Tryz.func97,Tryz.ntmps97
   go_upto_region 1 with fail
   try rw [hH]
   rw [Aa HW0]
   have x0:=Ad (Aa HG0)
   go_upto_region 7 with (first
    | (go_at_call 17;refine (Aa HCK W0 ((Aa HIN).below (by rw [hH];exact Aa HB0))).mono ?_;rintro x2 w2 ⟨rfl,hb2⟩;have hz2:=hb2.size;have r0:=(hb2.block H (by omega)).trans (Aa HG0);have r1:=(hb2.block (H+1) (by omega)).trans (Aa HG1);have r2:=(hb2.block (H+1+1) (by omega)).trans (Aa HG2);have z0:=Ad r0;have HB2:=Ab hb2;have HR0:=Ab r0;have HR1:=Ab r1;have HR2:=Ab r2;clear hb2 r0 r1 r2)
    | (go_at_call 18;refine (Aa HSZ w2 ((Aa HIN).below (by rw [hH];exact (Aa HB0).trans ((Aa HB2).mono (by omega))))).mono ?_;rintro x3 w3 ⟨rfl,hb3⟩;have hz3:=hb3.size;have y1:=(hb3.block (H+1) (by omega)).trans (Aa HR1);have y2:=(hb3.block (H+1+1) (by omega)).trans (Aa HR2);have y0:=(hb3.block H (by omega)).trans (Aa HR0);have HB3:=Ab hb3;have HY1:=Ab y1;have HY2:=Ab y2;have HY0:=Ab y0;clear hb3 y0 y1 y2))
   have v0:=Ad (Aa HY0)
   have v1:=Ad (Aa HY1)
   have v2:=Af (Aa HY2)
   go_wp2
   (have HE:=Ab (Rh (B:=H) (g1:=H+1) (g2:=H+1+1) (w:=w) ((Aa HB0).trans (((Aa HB2).mono (by omega)).trans ((Aa HB3).mono (by omega)))) (Aa HY1) (Aa HY2) (by omega) (by omega) (by omega) (.int .u8 k) (.string ⟨t.toArray⟩) (.slice ka ks.length kc) (.slice da ds.length dc) (.int .i64 l) (.int .i64 0) (.int .i64 0));exact bodyPost_ret (Al rfl _ _ _ (H+1) (H+1+1) _ _ rfl (Hm (Aa HE).2.1) rfl (Ai (Aa HE).2.2)) rfl ⟨rfl,by rw [hH];exact (Aa HE).1⟩)
 ·rw [if_pos h0]
  refine ⟨c,l,fun w hin=>?_,.inr ⟨rfl,h0⟩⟩
  obtain ⟨H,hH⟩:∃ H,w.heap.size=H:=⟨_,rfl⟩
  obtain ⟨W0,hW0⟩:∃ W0,((w.alloc (.cells #[.int .u8 k,.string ⟨t.toArray⟩,.slice ka ks.length kc,.slice da ds.length dc,.int .i64 l] 26)).alloc (.cells #[.int .u8 0,.string ⟨#[]⟩,.slice none 0 0,.slice none 0 0,.int .i64 0] 26)).alloc (.cells #[.int .i64 0,.int .i64 0] 29)=W0:=⟨_,rfl⟩
  obtain ⟨hb0,hs0,ha0⟩:=Cf [.cells #[.int .u8 k,.string ⟨t.toArray⟩,.slice ka ks.length kc,.slice da ds.length dc,.int .i64 l] 26,.cells #[.int .u8 0,.string ⟨#[]⟩,.slice none 0 0,.slice none 0 0,.int .i64 0] 26,.cells #[.int .i64 0,.int .i64 0] 29] w
  rw [show ([.cells #[.int .u8 k,.string ⟨t.toArray⟩,.slice ka ks.length kc,.slice da ds.length dc,.int .i64 l] 26,.cells #[.int .u8 0,.string ⟨#[]⟩,.slice none 0 0,.slice none 0 0,.int .i64 0] 26,.cells #[.int .i64 0,.int .i64 0] 29]:List Obj).foldl World.alloc w=W0 from hW0,hH] at hb0 hs0 ha0
  replace hs0:W0.heap.size=H+1+1+1:=hs0
  have g0:W0.heap[H]?=some (.cells #[.int .u8 k,.string ⟨t.toArray⟩,.slice ka ks.length kc,.slice da ds.length dc,.int .i64 l] 26):=ha0 0 _ rfl
  have g1:W0.heap[H+1]?=some (.cells #[.int .u8 0,.string ⟨#[]⟩,.slice none 0 0,.slice none 0 0,.int .i64 0] 26):=ha0 1 _ rfl
  have g2:W0.heap[H+1+1]?=some (.cells #[.int .i64 0,.int .i64 0] 29):=ha0 2 _ rfl
  have HW0:=Ab hW0
  have HB0:=Ab hb0
  have HG0:=Ab g0
  have HG1:=Ab g1
  have HG2:=Ab g2
  have hmx:=Dl
  clear hW0 hb0 g0 g1 g2 ha0
  have HIN:=Ab hin
  have j1:(c != 0)=true:=by simpa using h0
  clear h0 hin
  go_enter Tryz.func97,Tryz.ntmps97
  go_upto_region 1 with fail
  try rw [hH]
  rw [Aa HW0]
  have x0:=Ad (Aa HG0)
  go_upto_region 3 with (go_at_call 17;refine (Aa HCK W0 ((Aa HIN).below (by rw [hH];exact Aa HB0))).mono ?_;rintro x2 w2 ⟨rfl,hb2⟩;have hz2:=hb2.size;have r0:=(hb2.block H (by omega)).trans (Aa HG0);have r1:=(hb2.block (H+1) (by omega)).trans (Aa HG1);have r2:=(hb2.block (H+1+1) (by omega)).trans (Aa HG2);have z0:=Ad r0;have HB2:=Ab hb2;have HR0:=Ab r0;have HR1:=Ab r1;have HR2:=Ab r2;clear hb2 r0 r1 r2)
  have v0:=Ad (Aa HR0)
  have v1:=Ad (Aa HR1)
  have v2:=Af (Aa HR2)
  go_region_with_o (fail)
  all_goals go_wp2
  all_goals (have HE:=Ab (Pd (B:=H) (g1:=H+1) (g2:=H+1+1) (w:=w) ((Aa HB0).trans ((Aa HB2).mono (by omega))) (Aa HR1) (Aa HR2) (by omega) (by omega) (by omega) (.int .u8 k) (.string ⟨t.toArray⟩) (.slice ka ks.length kc) (.slice da ds.length dc) (.int .i64 l) (.int .i64 c) (.int .i64 l));exact bodyPost_ret (Al rfl _ _ _ (H+1) (H+1+1) _ _ rfl (Hm (Aa HE).2.1) rfl (Ai (Aa HE).2.2)) rfl ⟨rfl,by rw [hH];exact (Aa HE).1⟩)
end Go.Proofs.YtnjokdbblmlhhaaGreatDoor
namespace Go.Proofs.YtnjokdbblmlhhaaGreatDoor
set_option linter.unusedVariables false
set_option linter.unusedSimpArgs false
open Go.RowKit
open P20 (okF)
def Vj (w:World) (res:Except P22.F (List (List UInt8))) (e:Ending) (w':World):Prop:=
 Below w.heap.size w w'∧∃ a c xs ec el,e=.returned (.tuple #[.slice a (xs:List (List UInt8)).length c,fV ec el])∧Strs w' w.heap.size (.slice a xs.length c) xs∧Rq res xs ec el
theorem J2 {W W':World} {B:Nat} {v:Value} {ls:List (List UInt8)} (h:Strs W B v ls) (hk:∀ g,v.ownBlock=some g→W'.heap[g]?=W.heap[g]?):Strs W' B v ls:=⟨Ds h.own hk⟩
theorem Sf {W:World} {B B':Nat} {v:Value} {ls:List (List UInt8)} (h:Strs W B v ls) (hB:B'≤B):Strs W B' v ls:=by
 refine ⟨⟨h.own.1,?_⟩⟩
 rcases h.own.2 with h2 | ⟨g,cap,cur,e1,e2,e3⟩
 ·exact .inl h2
 ·exact .inr ⟨g,cap,cur,e1,Nat.le_trans hB e2,e3⟩
theorem Lz {B g:Nat} {w W:World} {a b:Value} (hb:Below B w W) (hg:B≤g) (h:W.heap[g]?=some (.cells #[a,b] 29)) (v0 v1:Value):Below B w ((W.setCell ⟨g,0,none⟩ v0).setCell ⟨g,1,none⟩ v1).drew∧((W.setCell ⟨g,0,none⟩ v0).setCell ⟨g,1,none⟩ v1).drew.heap[g]?=some (.cells #[v0,v1] 29):=by
 have q:=A3 h v0 v1
 rw [F2]
 exact ⟨(Ax hb hg v0 v1).drew,q⟩
theorem Jw {B g:Nat} {w W:World} {a b:Value} (hb:Below B w W) (hg:B≤g) (h:W.heap[g]?=some (.cells #[a,b] 29)) (v0 v1:Value):Below B w ((W.drew.setCell ⟨g,0,none⟩ v0).setCell ⟨g,1,none⟩ v1)∧((W.drew.setCell ⟨g,0,none⟩ v0).setCell ⟨g,1,none⟩ v1).heap[g]?=some (.cells #[v0,v1] 29):=
 ⟨Ax hb.drew hg v0 v1,A3 (by rw [F2];exact h) v0 v1⟩
set_option maxRecDepth 100000 in
set_option maxHeartbeats 16000000 in
theorem M7 (k:Nat) (t:List UInt8) (ka:Option Addr) (kc:Nat) (ks:List (List UInt8)) (da:Option Addr) (dc:Nat) (ds:List Nd) (l:Int) (w:World) (hin:(Nd.mk k t ka kc ks da dc ds l).In w) (hok:okF (Nd.mk k t ka kc ks da dc ds l).bare):Calls Tryz.prog 94 #[.agg #[.int .u8 k,.string ⟨t.toArray⟩,.slice ka ks.length kc,.slice da ds.length dc,.int .i64 l]] w (Vj w (P22.namesE (Nd.mk k t ka kc ks da dc ds l).bare)):=by
 obtain ⟨q1,q2,q3,q4,q5⟩:=hok.kid
 rw [Bs] at q4
 have hkk:=hin.kids
 simp only [Nd.da,Nd.kids] at hkk
 have hd5:∀ d∈ds,d.bare.text.length≤100000:=fun d hd=>by
  have h:=q5 _ (by rw [Ci];exact List.mem_map_of_mem hd)
  obtain ⟨k1,t1,ka1,kc1,ks1,da1,dc1,ds1,l1⟩:=d
  exact h.kid.1
 obtain ⟨H,hH⟩:∃ H,w.heap.size=H:=⟨_,rfl⟩
 obtain ⟨W0,hW0,hb0,g0,g1,hs0⟩:=A0 w (.cells #[.int .u8 k,.string ⟨t.toArray⟩,.slice ka ks.length kc,.slice da ds.length dc,.int .i64 l] 26) (.cells #[.int .i64 0,.int .i64 0] 29) H hH
 have x0:=Ad g0
 have y0:=Af g1
 obtain ⟨D,hD⟩:∃ D,ds.length=D:=⟨_,rfl⟩
 obtain ⟨e,l',hsh,hres⟩:∃ e l',(∀ w,Calls Tryz.prog 59 #[.agg #[.int .u8 k,.string ⟨t.toArray⟩,.slice ka ks.length kc,.slice da ds.length dc,.int .i64 l],.int .u8 2,.int .i64 64] w fun x w'=>x=.returned (fV e l')∧Below w.heap.size w w')∧((e≠0∧P22.namesE (Nd.mk k t ka kc ks da dc ds l).bare=.error (e,l'))∨(e=0∧l'=0∧P22.namesE (Nd.mk k t ka kc ks da dc ds l).bare=P22.rowGo (P22.textE 64) (Am ds) [])):=by
  have h:=fun w=>Iy k t ka kc ks da dc ds l 64 w
  have hsp:P22.namesE (Nd.mk k t ka kc ks da dc ds l).bare=if k≠2 then .error (7,l) else if (64:Int)<((Am ds).length:Int) then .error (2,l) else P22.rowGo (P22.textE 64) (Am ds) []:=by
   simp only [Nd.bare]
   rfl
  rw [hsp,Bs]
  by_cases hk:k=2
  ·rw [if_neg (by simpa using hk)]
   by_cases hn:64<ds.length
   ·rw [if_pos (by omega)]
    refine ⟨2,l,fun w=>?_,.inl ⟨by decide,rfl⟩⟩
    have:=h w
    rw [if_neg (by simpa using hk),if_pos hn] at this
    exact this
   ·rw [if_neg (by omega)]
    refine ⟨0,0,fun w=>?_,.inr ⟨rfl,rfl,rfl⟩⟩
    have:=h w
    rw [if_neg (by simpa using hk),if_neg hn] at this
    exact this
  ·rw [if_pos hk]
   refine ⟨7,l,fun w=>?_,.inl ⟨by decide,rfl⟩⟩
   have:=h w
   rw [if_pos hk] at this
   exact this
 obtain ⟨RES,hRES⟩:∃ RES,P22.namesE (Nd.mk k t ka kc ks da dc ds l).bare=RES:=⟨_,rfl⟩
 rw [hRES] at hres ⊢
 have hsw:=hsh W0
 rw [hD] at hW0 g0 x0 q4 hsw ⊢
 have HW0:=Ab hW0
 have HB0:=Ab hb0
 have HG0:=Ab g0
 have HG1:=Ab g1
 have HSW:=Ab hsw
 have HD:=Ab hD
 have HKK:=Ab hkk
 have HD5:=Ab hd5
 have HRS:=Ab hres
 have HIN:=Ab hin
 have hmx:=Dl
 clear hW0 hb0 g0 g1 hsh hsw hres hRES hD hkk hd5 q5 q3 hok hin
 go_enter Tryz.func94,Tryz.ntmps94
 go_upto_region 1 with fail
 try rw [hH]
 rw [Aa HW0]
 go_upto_region 2 with (go_at_call 59;refine (Aa HSW).mono ?_;rintro x2 w2 ⟨rfl,hb2⟩;have hz2:=hb2.size;have HB2:=Ab hb2;clear hb2)
 obtain ⟨K,hK⟩:∃ K,w2.heap.size=K:=⟨_,rfl⟩
 obtain ⟨W2,hW2⟩:∃ W2,w2.alloc (.cells #[.int .i64 e,.int .i64 l'] 29)=W2:=⟨_,rfl⟩
 have hb3:Below K w2 W2:=by rw [← hW2];exact (Below.refl _ w2).alloc (by omega) _
 have p0:W2.heap[K]?=some (.cells #[.int .i64 e,.int .i64 l'] 29):=by rw [← hW2,← hK];exact World.alloc_heap_new _ _
 have hs3:W2.heap.size=K+1:=by rw [← hW2];simp;omega
 rw [hW2]
 rw [hK]
 rw [hK] at hz2
 have hb4:Below H w W2:=(Aa HB0).trans (((Aa HB2).mono (by omega)).trans (hb3.mono (by omega)))
 have r0:=(hb3.block H (by omega)).trans (((Aa HB2).block H (by omega)).trans (Aa HG0))
 have r1:=(hb3.block (H+1) (by omega)).trans (((Aa HB2).block (H+1) (by omega)).trans (Aa HG1))
 have hkd:=(Aa HKK).below (by rw [hH];exact hb4)
 have z0:=Ad r0
 have z1:=Af r1
 have z2:=Af p0
 have HB4:=Ab hb4
 have HR0:=Ab r0
 have HR1:=Ab r1
 have HKD:=Ab hkd
 clear HW0 hW2 hb3 p0 hb4 r0 r1 x0 y0 hkd
 rcases Aa HRS with ⟨hne,hq⟩ | ⟨rfl,rfl,hq⟩
 ·have j1:(e != 0)=true:=by simpa using hne
  have HNE:=Ab hne
  have HQ:=Ab hq
  clear hne hq HRS
  go_upto_region 3 with fail
  go_region
  all_goals go_wp2
  all_goals
   have HE:=Lz (B:=H) (g:=H+1) (w:=w) (Aa HB4) (by omega) (Aa HR1) (.int .i64 e) (.int .i64 l')
   have HE':=Jw (B:=H) (g:=H+1) (w:=w) (Aa HB4) (by omega) (Aa HR1) (.int .i64 e) (.int .i64 l')
   first
    | exact bodyPost_ret (As rfl _ _ _ (H+1) _ rfl (Ai HE.2)) rfl ⟨by rw [hH];exact HE.1,none,0,[],e,l',rfl,Strs.nil _ _,.inr ⟨Aa HQ,Aa HNE⟩⟩
    | exact bodyPost_ret (As rfl _ _ _ (H+1) _ rfl (Ai HE'.2)) rfl ⟨by rw [hH];exact HE'.1,none,0,[],e,l',rfl,Strs.nil _ _,.inr ⟨Aa HQ,Aa HNE⟩⟩
 ·have HQ:=Ab hq
  have HZ:=Ab hs3
  obtain ⟨Z,hZ⟩:∃ Z,Z=K+1:=⟨_,rfl⟩
  have hHZ:H+1+1<Z:=by omega
  have HHZ:=Ab hZ
  clear hq HRS hs3 hZ
  go_wp2
  go_loopg [5,6] D (fun g s5 s6 wx=>∃ (i:Nat) (acc:List (List UInt8)),i+g=D∧s6=.int .i64 i∧Hid (P22.rowGo (P22.textE 64) (Am (ds.drop i)) acc=RES)∧Hid (Strs wx Z s5 acc)∧Hid (Below Z W2 wx)∧Hid (acc.length=i))
  case atStart=>exact ⟨0,[],by omega,by go_num,Ab (Aa HQ).symm,Ab (Strs.nil _ _),Ab (Below.refl _ _),Ab rfl⟩
  case round=>
   obtain ⟨i,acc,hig,rfl,HE,HSO,HBX,HAL⟩:=hrel
   have hal2:acc.length≤100000:=by have:=Aa HAL;omega
   clear z0 z1 z2
   have hZ2:Z=W2.heap.size:=by rw [Aa HHZ,Aa HZ]
   have y0:=((Aa HBX).block H (by omega)).trans (Aa HR0)
   have y1:=((Aa HBX).block (H+1) (by omega)).trans (Aa HR1)
   have hzx:Z≤wr.heap.size:=by rw [hZ2];exact (Aa HBX).size
   have HHZ2:=Ab hZ2
   have hbw:Below H w wr:=(Aa HB4).trans ((Aa HBX).mono (by omega))
   have z0:=Ad y0
   have z1:=Af y1
   obtain ⟨ao,co,hvo,_⟩:=(Aa HSO).slice
   subst hvo
   have HY0:=Ab y0
   have HY1:=Ab y1
   have HBW:=Ab hbw
   clear y0 y1 hbw hZ2
   cases gk with
   | zero=>
    have e1:(D:Int)≤(i:Int):=by omega
    have j1:decide ((i:Int)<(D:Int))=false:=by simp;omega
    have hE:=Aa HE
    rw [List.drop_of_length_le (l:=ds) (by rw [Aa HD];omega)] at hE
    simp only [Am,P22.rowGo] at hE
    have HE2:=Ab hE
    clear hE
    go_wp2
    refine bodyPost_ret (As rfl _ _ _ (H+1) _ rfl (Ai (A3 (Aa HY1) _ _))) rfl ⟨by rw [hH];exact Ax (Aa HBW) (show H≤H+1 by omega) _ _,ao,co,acc,0,0,rfl,?_,.inl ⟨(Aa HE2).symm,rfl,rfl⟩⟩
    rw [hH]
    refine Sf (J2 (Aa HSO) (fun g hg=>Ar ?_ _ _)) (by omega)
    have:=(Ao (Aa HSO).own g hg).1
    omega
   | succ g'=>
    have hlt:(i:Int)<(D:Int):=by omega
    have hki:IntKind.i64.wrap ((i:Int)+1)=(i:Int)+1:=IntWalk.i64_in _ (by omega)
    obtain ⟨d,hg1⟩:=V3 (Aa HD) (show i<D by omega)
    have htl:=Aa HD5 d (List.mem_of_getElem? hg1)
    have hE:=Aa HE
    rw [Cg hg1] at hE
    unfold P22.rowGo at hE
    obtain ⟨b2,o2,k1,t1,ka1,kc1,ks1,da1,dc1,ds1,l1,rfl,rfl,v0,v1,v2,v3,v4,hin1⟩:=Ce ((Aa HKD).below (by rw [← Aa HHZ2];exact Aa HBX)) hg1
    obtain ⟨x,ec,el,htx,hrx⟩:=Ei k1 t1 ka1 kc1 ks1 da1 dc1 ds1 l1 64 (by have:t1.length≤100000:=htl;omega)
    have HTX:=Ab (htx wr)
    have HRX:=Ab hrx
    have HE2:=Ab hE
    clear htx hrx hE HE htl hg1 hin1
    go_upto_region 9 with (go_at_call 60;refine (Aa HTX).mono ?_;rintro x5 w5 ⟨rfl,hb5⟩;have HB5:=Ab hb5;clear hb5)
    obtain ⟨F,hF⟩:∃ F,w5.heap.size=F:=⟨_,rfl⟩
    obtain ⟨W6,hW6⟩:∃ W6,w5.alloc (.cells #[.int .i64 ec,.int .i64 el] 29)=W6:=⟨_,rfl⟩
    have hb5:=Aa HB5
    have hz5:=hb5.size
    rw [hF] at hz5
    have hb6:Below wr.heap.size wr W6:=by rw [← hW6];exact hb5.alloc (by rw [← hF] at hz5;exact hz5) _
    have p6:W6.heap[F]?=some (.cells #[.int .i64 ec,.int .i64 el] 29):=by rw [← hW6,← hF];exact World.alloc_heap_new _ _
    have hz6:F+1≤W6.heap.size:=by rw [← hW6];simp;omega
    rw [hW6]
    rw [hF]
    have y0:=(hb6.block H (by omega)).trans (Aa HY0)
    have y1:=(hb6.block (H+1) (by omega)).trans (Aa HY1)
    have hbw6:Below H w W6:=(Aa HBW).trans (hb6.mono (by omega))
    have hbx6:Below Z W2 W6:=(Aa HBX).trans (hb6.mono (by omega))
    have hso6:Strs W6 Z (.slice ao acc.length co) acc:=J2 (Aa HSO) (fun g hg=>hb6.block g (Ao (Aa HSO).own g hg).2)
    clear z0 z1 v0 v1 v2 v3 v4
    have z0:=Ad y0
    have z1:=Af y1
    have z6:=Af p6
    have HBW6:=Ab hbw6
    have HBX6:=Ab hbx6
    have HSO6:=Ab hso6
    have HY6:=Ab y1
    clear hbw6 hbx6 hso6 y0 y1 hW6 hb5 hb6 p6 HBW HBX HSO HB5 HTX
    rcases Aa HRX with ⟨hr,rfl,rfl⟩ | ⟨hr,hne⟩
    ·have hE:=Aa HE2
     rw [hr] at hE
     have HE3:=Ab hE
     clear hE hr HE2 HRX
     go_wp2_with (at_builtin;refine Fz (B:=Z) rfl (.tmp 35) (.tmp 37) rfl rfl (Aa HSO6) x rfl (by omega) (by omega) ?_;intro v7 w7 hS7 hg7 hat7)
     go_roundg g'
     case measure=>omega
     case rel=>
      refine ⟨i+1,acc ++ [x],by omega,by go_num,HE3,Ab hS7,Ab ?_,Ab (by have:=Aa HAL;simp;omega)⟩
      exact (Aa HBX6).trans ⟨hg7.os,hg7.tape,hg7.output,by have:=(Aa HBX6).size;have:=hg7.size;omega,fun g hg=>hg7.block g (by omega) (fun e=>by have:=(Ao (Aa HSO6).own g e.symm).1;omega)⟩
    ·have j1:(ec != 0)=true:=by simpa using hne
     have hE:=Aa HE2
     rw [hr] at hE
     have HE3:=Ab hE
     have HNE:=Ab hne
     clear hE hr HE2 HRX hne
     go_upto_region 10 with fail
     go_region
     all_goals go_wp2
     all_goals
      have HE:=Lz (B:=H) (g:=H+1) (w:=w) (Aa HBW6) (by omega) (Aa HY6) (.int .i64 ec) (.int .i64 el)
      have HE':=Jw (B:=H) (g:=H+1) (w:=w) (Aa HBW6) (by omega) (Aa HY6) (.int .i64 ec) (.int .i64 el)
      first
       | exact bodyPost_ret (As rfl _ _ _ (H+1) _ rfl (Ai HE.2)) rfl ⟨by rw [hH];exact HE.1,none,0,[],ec,el,rfl,Strs.nil _ _,.inr ⟨(Aa HE3).symm,Aa HNE⟩⟩
       | exact bodyPost_ret (As rfl _ _ _ (H+1) _ rfl (Ai HE'.2)) rfl ⟨by rw [hH];exact HE'.1,none,0,[],ec,el,rfl,Strs.nil _ _,.inr ⟨(Aa HE3).symm,Aa HNE⟩⟩
end Go.Proofs.YtnjokdbblmlhhaaGreatDoor
namespace Go.Proofs.YtnjokdbblmlhhaaGreatDoor
set_option linter.unusedVariables false
set_option linter.unusedSimpArgs false
open Go.RowKit
open P20 (okF)
theorem Dx {W:World} {g:Nat} {a b c:Value} (h:W.heap[g]?=some (.cells #[a,b,c] 84)):(loadVar 84 ⟨g,0,none⟩).run Tryz.prog W=.ok (.agg #[a,b,c]) W:=run_loadVar_row _ _ _ _ _ _ _ h Tryz.underlying84 rfl (by kernel_rfl)
theorem An {W:World} {g:Nat} {T:TypeId} {a b c:Value} (h:W.heap[g]?=some (.cells #[a,b,c] T)):(W.cell? ⟨g,0,none⟩=some a∧W.frozen? ⟨g,0,none⟩=false)∧(W.cell? ⟨g,1,none⟩=some b∧W.frozen? ⟨g,1,none⟩=false)∧(W.cell? ⟨g,2,none⟩=some c∧W.frozen? ⟨g,2,none⟩=false):=by
 simp [World.cell?,World.frozen?,h]
theorem Cr {B:Nat} {W1 w:World} {cs:Array Value} {T:TypeId} (hb:Below B W1 w) (hc:w.heap[B]?=some (.cells cs T)) (j:Nat) (v:Value):Below B W1 (w.setCell ⟨B,j,none⟩ v)∧(w.setCell ⟨B,j,none⟩ v).heap[B]?=some (.cells (cs.setIfInBounds j v) T)∧(∀ g,g≠B→(w.setCell ⟨B,j,none⟩ v).heap[g]?=w.heap[g]?)∧(w.setCell ⟨B,j,none⟩ v).heap.size=w.heap.size:=
 ⟨hb.setCell (p:=⟨B,j,none⟩) (Nat.le_refl _) _,heap_setCell_same _ _ _ _ _ _ hc,fun g hg=>Below.heap_setCell _ _ _ _ hg,by simp⟩
theorem C6 {B F:Nat} {W1 w:World} {cs:Array Value} {T:TypeId} {x y:Value} (hb:Below B W1 w) (hc:w.heap[B]?=some (.cells cs T)) (hf:w.heap[F]?=some (.cells #[x,y] 29)) (hF:B<F) (e l:Value):Below B W1 ((w.setCell ⟨F,0,none⟩ e).setCell ⟨F,1,none⟩ l)∧((w.setCell ⟨F,0,none⟩ e).setCell ⟨F,1,none⟩ l).heap[B]?=some (.cells cs T)∧((w.setCell ⟨F,0,none⟩ e).setCell ⟨F,1,none⟩ l).heap[F]?=some (.cells #[e,l] 29)∧(∀ g,g≠F→((w.setCell ⟨F,0,none⟩ e).setCell ⟨F,1,none⟩ l).heap[g]?=w.heap[g]?)∧((w.setCell ⟨F,0,none⟩ e).setCell ⟨F,1,none⟩ l).heap.size=w.heap.size:=
 ⟨Ax hb (Nat.le_of_lt hF) e l,(Ar (by omega) e l).trans hc,A3 hf e l,fun g hg=>Ar hg e l,by simp⟩
theorem Gv {σ:Type} (rd:List UInt8→Option (P22.Rd σ)) (must:List (List UInt8)) (s:σ) (k:Nat) (t:List UInt8) (ka:Option Addr) (kc:Nat) (ks:List (List UInt8)) (da:Option Addr) (dc:Nat) (ds:List Nd) (l:Int):∃ e l',(∀ w,Calls Tryz.prog 59 #[.agg #[.int .u8 k,.string ⟨t.toArray⟩,.slice ka ks.length kc,.slice da ds.length dc,.int .i64 l],.int .u8 3,.int .i64 0] w fun x w'=>x=.returned (fV e l')∧Below w.heap.size w w')∧((e≠0∧P22.keysE rd must (Nd.mk k t ka kc ks da dc ds l).bare s=.error (e,l'))∨(e=0∧l'=0∧ks.length=ds.length∧P22.keysE rd must (Nd.mk k t ka kc ks da dc ds l).bare s=match P22.keysGo rd ks (Am ds) s with
  | .error x=>.error x
  | .ok s'=>if ∀ m∈must,m∈ks then .ok s' else .error (5,l))):=by
 have hsh:=fun w=>N0 k t ka kc ks da dc ds l w
 have hsp:P22.keysE rd must (Nd.mk k t ka kc ks da dc ds l).bare s=if k≠3 then .error (7,l) else if ks.length≠(Am ds).length then .error (3,l) else match P22.keysGo rd ks (Am ds) s with
   | .error x=>.error x
   | .ok s'=>if ∀ m∈must,m∈ks then .ok s' else .error (5,l):=by
  simp only [Nd.bare]
  rfl
 rw [Bs] at hsp
 rw [hsp]
 by_cases hk:k=3
 ·rw [if_neg (by simpa using hk)]
  by_cases hn:ks.length=ds.length
  ·rw [if_neg (by simpa using hn)]
   refine ⟨0,0,fun w=>?_,.inr ⟨rfl,rfl,hn,rfl⟩⟩
   have:=hsh w
   rw [if_neg (by simpa using hk),if_neg (by simpa using hn)] at this
   exact this
  ·rw [if_pos hn]
   refine ⟨3,l,fun w=>?_,.inl ⟨by decide,rfl⟩⟩
   have:=hsh w
   rw [if_neg (by simpa using hk),if_pos hn] at this
   exact this
 ·rw [if_pos hk]
  refine ⟨7,l,fun w=>?_,.inl ⟨by decide,rfl⟩⟩
  have:=hsh w
  rw [if_pos hk] at this
  exact this
theorem M8 {B g1 g2:Nat} {w W:World} {T:TypeId} {a0 a1 a2 b0 b1:Value} (hb:Below B w W) (h1:W.heap[g1]?=some (.cells #[a0,a1,a2] T)) (h2:W.heap[g2]?=some (.cells #[b0,b1] 29)) (hB1:B≤g1) (hB2:B≤g2) (hne:g1≠g2) (v0 v1 v2 e l:Value) :
  Below B w (((((W.setCell ⟨g1,0,none⟩ v0).setCell ⟨g1,1,none⟩ v1).setCell ⟨g1,2,none⟩ v2).setCell ⟨g2,0,none⟩ e).setCell ⟨g2,1,none⟩ l)∧(((((W.setCell ⟨g1,0,none⟩ v0).setCell ⟨g1,1,none⟩ v1).setCell ⟨g1,2,none⟩ v2).setCell ⟨g2,0,none⟩ e).setCell ⟨g2,1,none⟩ l).heap[g1]?=some (.cells #[v0,v1,v2] T)∧(((((W.setCell ⟨g1,0,none⟩ v0).setCell ⟨g1,1,none⟩ v1).setCell ⟨g1,2,none⟩ v2).setCell ⟨g2,0,none⟩ e).setCell ⟨g2,1,none⟩ l).heap[g2]?=some (.cells #[e,l] 29)∧∀ g,g≠g1→g≠g2→(((((W.setCell ⟨g1,0,none⟩ v0).setCell ⟨g1,1,none⟩ v1).setCell ⟨g1,2,none⟩ v2).setCell ⟨g2,0,none⟩ e).setCell ⟨g2,1,none⟩ l).heap[g]?=W.heap[g]?:=by
 have q1:Below B w (((W.setCell ⟨g1,0,none⟩ v0).setCell ⟨g1,1,none⟩ v1).setCell ⟨g1,2,none⟩ v2):=(((hb.setCell (p:=⟨g1,0,none⟩) hB1 _).setCell (p:=⟨g1,1,none⟩) hB1 _).setCell (p:=⟨g1,2,none⟩) hB1 _)
 have q2:(((W.setCell ⟨g1,0,none⟩ v0).setCell ⟨g1,1,none⟩ v1).setCell ⟨g1,2,none⟩ v2).heap[g1]?=some (.cells #[v0,v1,v2] T):=by simp [World.setCell,Array.getElem?_modify,h1]
 have q4:∀ g,g≠g1→(((W.setCell ⟨g1,0,none⟩ v0).setCell ⟨g1,1,none⟩ v1).setCell ⟨g1,2,none⟩ v2).heap[g]?=W.heap[g]?:=fun g h=>by rw [Below.heap_setCell _ _ _ _ h,Below.heap_setCell _ _ _ _ h,Below.heap_setCell _ _ _ _ h]
 have q3:=(q4 g2 (Ne.symm hne)).trans h2
 refine ⟨Ax q1 hB2 e l,?_,?_,fun g h3 h4=>?_⟩
 ·exact (Ar hne e l).trans q2
 ·exact A3 q3 e l
 ·exact (Ar h4 e l).trans (q4 g h3)
theorem C3 {B g1 g2:Nat} {w W:World} {T:TypeId} {a0 a1 a2 b0 b1:Value} (hb:Below B w W) (h1:W.heap[g1]?=some (.cells #[a0,a1,a2] T)) (h2:W.heap[g2]?=some (.cells #[b0,b1] 29)) (hB1:B≤g1) (hB2:B≤g2) (hne:g1≠g2) (v0 v1 v2 e l:Value) :
  Below B w (((((W.setCell ⟨g1,0,none⟩ v0).setCell ⟨g1,1,none⟩ v1).setCell ⟨g1,2,none⟩ v2).setCell ⟨g2,0,none⟩ e).setCell ⟨g2,1,none⟩ l).drew∧(((((W.setCell ⟨g1,0,none⟩ v0).setCell ⟨g1,1,none⟩ v1).setCell ⟨g1,2,none⟩ v2).setCell ⟨g2,0,none⟩ e).setCell ⟨g2,1,none⟩ l).drew.heap[g1]?=some (.cells #[v0,v1,v2] T)∧(((((W.setCell ⟨g1,0,none⟩ v0).setCell ⟨g1,1,none⟩ v1).setCell ⟨g1,2,none⟩ v2).setCell ⟨g2,0,none⟩ e).setCell ⟨g2,1,none⟩ l).drew.heap[g2]?=some (.cells #[e,l] 29)∧∀ g,g≠g1→g≠g2→(((((W.setCell ⟨g1,0,none⟩ v0).setCell ⟨g1,1,none⟩ v1).setCell ⟨g1,2,none⟩ v2).setCell ⟨g2,0,none⟩ e).setCell ⟨g2,1,none⟩ l).drew.heap[g]?=W.heap[g]?:=by
 have q:=M8 hb h1 h2 hB1 hB2 hne v0 v1 v2 e l
 rw [F2]
 exact ⟨q.1.drew,q.2⟩
theorem Lg {B g1 g2:Nat} {w W:World} {T:TypeId} {a0 a1 a2 a3 a4 a5 a6 a7 a8 a9 a10 a11 a12 b0 b1:Value} (hb:Below B w W) (h1:W.heap[g1]?=some (.cells #[a0,a1,a2,a3,a4,a5,a6,a7,a8,a9,a10,a11,a12] T)) (h2:W.heap[g2]?=some (.cells #[b0,b1] 29)) (hB1:B≤g1) (hB2:B≤g2) (hne:g1≠g2) (v0 v1 v2 v3 v4 v5 v6 v7 v8 v9 v10 v11 v12 e l:Value) :
  Below B w (((((((((((((((W.setCell ⟨g1,0,none⟩ v0).setCell ⟨g1,1,none⟩ v1).setCell ⟨g1,2,none⟩ v2).setCell ⟨g1,3,none⟩ v3).setCell ⟨g1,4,none⟩ v4).setCell ⟨g1,5,none⟩ v5).setCell ⟨g1,6,none⟩ v6).setCell ⟨g1,7,none⟩ v7).setCell ⟨g1,8,none⟩ v8).setCell ⟨g1,9,none⟩ v9).setCell ⟨g1,10,none⟩ v10).setCell ⟨g1,11,none⟩ v11).setCell ⟨g1,12,none⟩ v12).setCell ⟨g2,0,none⟩ e).setCell ⟨g2,1,none⟩ l)∧(((((((((((((((W.setCell ⟨g1,0,none⟩ v0).setCell ⟨g1,1,none⟩ v1).setCell ⟨g1,2,none⟩ v2).setCell ⟨g1,3,none⟩ v3).setCell ⟨g1,4,none⟩ v4).setCell ⟨g1,5,none⟩ v5).setCell ⟨g1,6,none⟩ v6).setCell ⟨g1,7,none⟩ v7).setCell ⟨g1,8,none⟩ v8).setCell ⟨g1,9,none⟩ v9).setCell ⟨g1,10,none⟩ v10).setCell ⟨g1,11,none⟩ v11).setCell ⟨g1,12,none⟩ v12).setCell ⟨g2,0,none⟩ e).setCell ⟨g2,1,none⟩ l).heap[g1]?=some (.cells #[v0,v1,v2,v3,v4,v5,v6,v7,v8,v9,v10,v11,v12] T)∧(((((((((((((((W.setCell ⟨g1,0,none⟩ v0).setCell ⟨g1,1,none⟩ v1).setCell ⟨g1,2,none⟩ v2).setCell ⟨g1,3,none⟩ v3).setCell ⟨g1,4,none⟩ v4).setCell ⟨g1,5,none⟩ v5).setCell ⟨g1,6,none⟩ v6).setCell ⟨g1,7,none⟩ v7).setCell ⟨g1,8,none⟩ v8).setCell ⟨g1,9,none⟩ v9).setCell ⟨g1,10,none⟩ v10).setCell ⟨g1,11,none⟩ v11).setCell ⟨g1,12,none⟩ v12).setCell ⟨g2,0,none⟩ e).setCell ⟨g2,1,none⟩ l).heap[g2]?=some (.cells #[e,l] 29)∧∀ g,g≠g1→g≠g2→(((((((((((((((W.setCell ⟨g1,0,none⟩ v0).setCell ⟨g1,1,none⟩ v1).setCell ⟨g1,2,none⟩ v2).setCell ⟨g1,3,none⟩ v3).setCell ⟨g1,4,none⟩ v4).setCell ⟨g1,5,none⟩ v5).setCell ⟨g1,6,none⟩ v6).setCell ⟨g1,7,none⟩ v7).setCell ⟨g1,8,none⟩ v8).setCell ⟨g1,9,none⟩ v9).setCell ⟨g1,10,none⟩ v10).setCell ⟨g1,11,none⟩ v11).setCell ⟨g1,12,none⟩ v12).setCell ⟨g2,0,none⟩ e).setCell ⟨g2,1,none⟩ l).heap[g]?=W.heap[g]?:=by
 have q1:Below B w (((((((((((((W.setCell ⟨g1,0,none⟩ v0).setCell ⟨g1,1,none⟩ v1).setCell ⟨g1,2,none⟩ v2).setCell ⟨g1,3,none⟩ v3).setCell ⟨g1,4,none⟩ v4).setCell ⟨g1,5,none⟩ v5).setCell ⟨g1,6,none⟩ v6).setCell ⟨g1,7,none⟩ v7).setCell ⟨g1,8,none⟩ v8).setCell ⟨g1,9,none⟩ v9).setCell ⟨g1,10,none⟩ v10).setCell ⟨g1,11,none⟩ v11).setCell ⟨g1,12,none⟩ v12):=(((((((((((((hb.setCell (p:=⟨g1,0,none⟩) hB1 _).setCell (p:=⟨g1,1,none⟩) hB1 _).setCell (p:=⟨g1,2,none⟩) hB1 _).setCell (p:=⟨g1,3,none⟩) hB1 _).setCell (p:=⟨g1,4,none⟩) hB1 _).setCell (p:=⟨g1,5,none⟩) hB1 _).setCell (p:=⟨g1,6,none⟩) hB1 _).setCell (p:=⟨g1,7,none⟩) hB1 _).setCell (p:=⟨g1,8,none⟩) hB1 _).setCell (p:=⟨g1,9,none⟩) hB1 _).setCell (p:=⟨g1,10,none⟩) hB1 _).setCell (p:=⟨g1,11,none⟩) hB1 _).setCell (p:=⟨g1,12,none⟩) hB1 _)
 have q2:(((((((((((((W.setCell ⟨g1,0,none⟩ v0).setCell ⟨g1,1,none⟩ v1).setCell ⟨g1,2,none⟩ v2).setCell ⟨g1,3,none⟩ v3).setCell ⟨g1,4,none⟩ v4).setCell ⟨g1,5,none⟩ v5).setCell ⟨g1,6,none⟩ v6).setCell ⟨g1,7,none⟩ v7).setCell ⟨g1,8,none⟩ v8).setCell ⟨g1,9,none⟩ v9).setCell ⟨g1,10,none⟩ v10).setCell ⟨g1,11,none⟩ v11).setCell ⟨g1,12,none⟩ v12).heap[g1]?=some (.cells #[v0,v1,v2,v3,v4,v5,v6,v7,v8,v9,v10,v11,v12] T):=by simp [World.setCell,Array.getElem?_modify,h1]
 have q4:∀ g,g≠g1→(((((((((((((W.setCell ⟨g1,0,none⟩ v0).setCell ⟨g1,1,none⟩ v1).setCell ⟨g1,2,none⟩ v2).setCell ⟨g1,3,none⟩ v3).setCell ⟨g1,4,none⟩ v4).setCell ⟨g1,5,none⟩ v5).setCell ⟨g1,6,none⟩ v6).setCell ⟨g1,7,none⟩ v7).setCell ⟨g1,8,none⟩ v8).setCell ⟨g1,9,none⟩ v9).setCell ⟨g1,10,none⟩ v10).setCell ⟨g1,11,none⟩ v11).setCell ⟨g1,12,none⟩ v12).heap[g]?=W.heap[g]?:=fun g h=>by rw [Below.heap_setCell _ _ _ _ h,Below.heap_setCell _ _ _ _ h,Below.heap_setCell _ _ _ _ h,Below.heap_setCell _ _ _ _ h,Below.heap_setCell _ _ _ _ h,Below.heap_setCell _ _ _ _ h,Below.heap_setCell _ _ _ _ h,Below.heap_setCell _ _ _ _ h,Below.heap_setCell _ _ _ _ h,Below.heap_setCell _ _ _ _ h,Below.heap_setCell _ _ _ _ h,Below.heap_setCell _ _ _ _ h,Below.heap_setCell _ _ _ _ h]
 have q3:=(q4 g2 (Ne.symm hne)).trans h2
 refine ⟨Ax q1 hB2 e l,?_,?_,fun g h3 h4=>?_⟩
 ·exact (Ar hne e l).trans q2
 ·exact A3 q3 e l
 ·exact (Ar h4 e l).trans (q4 g h3)
theorem Dq {B g1 g2:Nat} {w W:World} {T:TypeId} {a0 a1 a2 a3 a4 a5 a6 a7 a8 a9 a10 a11 a12 b0 b1:Value} (hb:Below B w W) (h1:W.heap[g1]?=some (.cells #[a0,a1,a2,a3,a4,a5,a6,a7,a8,a9,a10,a11,a12] T)) (h2:W.heap[g2]?=some (.cells #[b0,b1] 29)) (hB1:B≤g1) (hB2:B≤g2) (hne:g1≠g2) (v0 v1 v2 v3 v4 v5 v6 v7 v8 v9 v10 v11 v12 e l:Value) :
  Below B w (((((((((((((((W.setCell ⟨g1,0,none⟩ v0).setCell ⟨g1,1,none⟩ v1).setCell ⟨g1,2,none⟩ v2).setCell ⟨g1,3,none⟩ v3).setCell ⟨g1,4,none⟩ v4).setCell ⟨g1,5,none⟩ v5).setCell ⟨g1,6,none⟩ v6).setCell ⟨g1,7,none⟩ v7).setCell ⟨g1,8,none⟩ v8).setCell ⟨g1,9,none⟩ v9).setCell ⟨g1,10,none⟩ v10).setCell ⟨g1,11,none⟩ v11).setCell ⟨g1,12,none⟩ v12).setCell ⟨g2,0,none⟩ e).setCell ⟨g2,1,none⟩ l).drew∧(((((((((((((((W.setCell ⟨g1,0,none⟩ v0).setCell ⟨g1,1,none⟩ v1).setCell ⟨g1,2,none⟩ v2).setCell ⟨g1,3,none⟩ v3).setCell ⟨g1,4,none⟩ v4).setCell ⟨g1,5,none⟩ v5).setCell ⟨g1,6,none⟩ v6).setCell ⟨g1,7,none⟩ v7).setCell ⟨g1,8,none⟩ v8).setCell ⟨g1,9,none⟩ v9).setCell ⟨g1,10,none⟩ v10).setCell ⟨g1,11,none⟩ v11).setCell ⟨g1,12,none⟩ v12).setCell ⟨g2,0,none⟩ e).setCell ⟨g2,1,none⟩ l).drew.heap[g1]?=some (.cells #[v0,v1,v2,v3,v4,v5,v6,v7,v8,v9,v10,v11,v12] T)∧(((((((((((((((W.setCell ⟨g1,0,none⟩ v0).setCell ⟨g1,1,none⟩ v1).setCell ⟨g1,2,none⟩ v2).setCell ⟨g1,3,none⟩ v3).setCell ⟨g1,4,none⟩ v4).setCell ⟨g1,5,none⟩ v5).setCell ⟨g1,6,none⟩ v6).setCell ⟨g1,7,none⟩ v7).setCell ⟨g1,8,none⟩ v8).setCell ⟨g1,9,none⟩ v9).setCell ⟨g1,10,none⟩ v10).setCell ⟨g1,11,none⟩ v11).setCell ⟨g1,12,none⟩ v12).setCell ⟨g2,0,none⟩ e).setCell ⟨g2,1,none⟩ l).drew.heap[g2]?=some (.cells #[e,l] 29)∧∀ g,g≠g1→g≠g2→(((((((((((((((W.setCell ⟨g1,0,none⟩ v0).setCell ⟨g1,1,none⟩ v1).setCell ⟨g1,2,none⟩ v2).setCell ⟨g1,3,none⟩ v3).setCell ⟨g1,4,none⟩ v4).setCell ⟨g1,5,none⟩ v5).setCell ⟨g1,6,none⟩ v6).setCell ⟨g1,7,none⟩ v7).setCell ⟨g1,8,none⟩ v8).setCell ⟨g1,9,none⟩ v9).setCell ⟨g1,10,none⟩ v10).setCell ⟨g1,11,none⟩ v11).setCell ⟨g1,12,none⟩ v12).setCell ⟨g2,0,none⟩ e).setCell ⟨g2,1,none⟩ l).drew.heap[g]?=W.heap[g]?:=by
 have q:=Lg hb h1 h2 hB1 hB2 hne v0 v1 v2 v3 v4 v5 v6 v7 v8 v9 v10 v11 v12 e l
 rw [F2]
 exact ⟨q.1.drew,q.2⟩
def Vg (w:World) (res:Except P22.F P22.Try) (e:Ending) (w':World):Prop:=
 Below w.heap.size w w'∧∃ (x:P22.Try) (ec el:Int),e=.returned (.tuple #[.agg #[.int .i64 x.most,.int .i64 x.first,.int .i64 x.factor],fV ec el])∧Rq res x ec el
set_option maxRecDepth 100000 in
set_option maxHeartbeats 16000000 in
theorem N1 (k:Nat) (t:List UInt8) (ka:Option Addr) (kc:Nat) (ks:List (List UInt8)) (da:Option Addr) (dc:Nat) (ds:List Nd) (l:Int) (w:World) (hin:(Nd.mk k t ka kc ks da dc ds l).In w) (hok:okF (Nd.mk k t ka kc ks da dc ds l).bare):Calls Tryz.prog 95 #[.agg #[.int .u8 k,.string ⟨t.toArray⟩,.slice ka ks.length kc,.slice da ds.length dc,.int .i64 l]] w (Vg w (P22.triesE (Nd.mk k t ka kc ks da dc ds l).bare)):=by
 obtain ⟨q1,q2,q3,q4,q5⟩:=hok.kid
 rw [Bs] at q4
 have hkk:=hin.kids
 have hks:=hin.fit.keys
 simp only [Nd.da,Nd.kids,Nd.ka,Nd.keys] at hkk hks
 have hd5:∀ d∈ds,d.bare.text.length≤100000:=fun d hd=>by
  have h:=q5 _ (by rw [Ci];exact List.mem_map_of_mem hd)
  obtain ⟨k1,t1,ka1,kc1,ks1,da1,dc1,ds1,l1⟩:=d
  exact h.kid.1
 obtain ⟨H,hH⟩:∃ H,w.heap.size=H:=⟨_,rfl⟩
 obtain ⟨M,hM⟩:∃ M,ks.length=M:=⟨_,rfl⟩
 obtain ⟨D,hD⟩:∃ D,ds.length=D:=⟨_,rfl⟩
 obtain ⟨RES,hRES⟩:∃ RES,P22.triesE (Nd.mk k t ka kc ks da dc ds l).bare=RES:=⟨_,rfl⟩
 obtain ⟨e,l',hsh',hres⟩:=Gv P22.triesRd [] ⟨0,0,0⟩ k t ka kc ks da dc ds l
 have hres2:(e≠0∧RES=.error (e,l'))∨(e=0∧l'=0∧M=D∧RES=P22.keysGo P22.triesRd ks (Am ds) ⟨0,0,0⟩):=by
  rw [← hRES]
  unfold P22.triesE
  rcases hres with h | ⟨h1,h2,h3,h4⟩
  ·exact .inl h
  ·refine .inr ⟨h1,h2,by omega,h4.trans ?_⟩
   cases P22.keysGo P22.triesRd ks (Am ds) ⟨0,0,0⟩ with
   | error x=>rfl
   | ok s'=>simp
 rw [hRES]
 clear hres hRES
 rw [hM,hD] at hsh' ⊢
 rw [hM] at q2
 rw [hD] at q4
 have hmw:∀ (os:List Obj),os=[.cells #[.int .u8 k,.string ⟨t.toArray⟩,.slice ka M kc,.slice da D dc,.int .i64 l] 26,.cells #[.int .i64 0,.int .i64 0,.int .i64 0] 84,.cells #[.int .i64 0,.int .i64 0] 29,.cells #[.int .i64 0,.int .i64 0,.int .i64 0] 84]→Below w.heap.size w (os.foldl World.alloc w)∧(os.foldl World.alloc w).heap.size=w.heap.size+os.length∧∀ i o,os[i]?=some o→(os.foldl World.alloc w).heap[w.heap.size+i]?=some o:=fun os _=>Cf os w
 obtain ⟨hb0,hs0,ha0⟩:=hmw _ rfl
 obtain ⟨W0,hW0⟩:∃ W0,(((w.alloc (.cells #[.int .u8 k,.string ⟨t.toArray⟩,.slice ka M kc,.slice da D dc,.int .i64 l] 26)).alloc (.cells #[.int .i64 0,.int .i64 0,.int .i64 0] 84)).alloc (.cells #[.int .i64 0,.int .i64 0] 29)).alloc (.cells #[.int .i64 0,.int .i64 0,.int .i64 0] 84)=W0:=⟨_,rfl⟩
 rw [show ([.cells #[.int .u8 k,.string ⟨t.toArray⟩,.slice ka M kc,.slice da D dc,.int .i64 l] 26,.cells #[.int .i64 0,.int .i64 0,.int .i64 0] 84,.cells #[.int .i64 0,.int .i64 0] 29,.cells #[.int .i64 0,.int .i64 0,.int .i64 0] 84]:List Obj).foldl World.alloc w=W0 from hW0,hH] at hb0 hs0 ha0
 replace hs0:W0.heap.size=H+1+1+1+1:=hs0
 have g0:W0.heap[H]?=some (.cells #[.int .u8 k,.string ⟨t.toArray⟩,.slice ka M kc,.slice da D dc,.int .i64 l] 26):=ha0 0 _ rfl
 have g1:W0.heap[H+1]?=some (.cells #[.int .i64 0,.int .i64 0,.int .i64 0] 84):=ha0 1 _ rfl
 have g2:W0.heap[H+1+1]?=some (.cells #[.int .i64 0,.int .i64 0] 29):=ha0 2 _ rfl
 have g3:W0.heap[H+1+1+1]?=some (.cells #[.int .i64 0,.int .i64 0,.int .i64 0] 84):=ha0 3 _ rfl
 have x0:=Ad g0
 have hsw:=hsh' W0
 have HW0:=Ab hW0
 have HB0:=Ab hb0
 have HG0:=Ab g0
 have HG1:=Ab g1
 have HG2:=Ab g2
 have HG3:=Ab g3
 have HSW:=Ab hsw
 have HM:=Ab hM
 have HD:=Ab hD
 have HKK:=Ab hkk
 have HKS:=Ab hks
 have HD5:=Ab hd5
 have HRS:=Ab hres2
 have hmx:=Dl
 clear hmw hW0 hb0 ha0 g0 g1 g2 g3 hsh' hsw hres2 hM hD hkk hks hd5 q5 q3 hok hin
 go_enter Tryz.func95,Tryz.ntmps95
 go_upto_region 2 with fail
 try rw [hH]
 rw [Aa HW0]
 go_upto_region 3 with (go_at_call 59;refine (Aa HSW).mono ?_;rintro x2 w2 ⟨rfl,hb2⟩;have hz2:=hb2.size;have HB2:=Ab hb2;clear hb2)
 obtain ⟨K,hK⟩:∃ K,w2.heap.size=K:=⟨_,rfl⟩
 obtain ⟨W2,hW2⟩:∃ W2,w2.alloc (.cells #[.int .i64 e,.int .i64 l'] 29)=W2:=⟨_,rfl⟩
 have hb3:Below K w2 W2:=by rw [← hW2];exact (Below.refl _ w2).alloc (by omega) _
 have p0:W2.heap[K]?=some (.cells #[.int .i64 e,.int .i64 l'] 29):=by rw [← hW2,← hK];exact World.alloc_heap_new _ _
 have hs3:K+1≤W2.heap.size:=by rw [← hW2];simp;omega
 rw [hW2]
 rw [hK]
 rw [hK] at hz2
 have hb4:Below H w W2:=(Aa HB0).trans (((Aa HB2).mono (by omega)).trans (hb3.mono (by omega)))
 have r0:=(hb3.block H (by omega)).trans (((Aa HB2).block H (by omega)).trans (Aa HG0))
 have r1:=(hb3.block (H+1) (by omega)).trans (((Aa HB2).block (H+1) (by omega)).trans (Aa HG1))
 have r2:=(hb3.block (H+1+1) (by omega)).trans (((Aa HB2).block (H+1+1) (by omega)).trans (Aa HG2))
 have r3:=(hb3.block (H+1+1+1) (by omega)).trans (((Aa HB2).block (H+1+1+1) (by omega)).trans (Aa HG3))
 have hkd:=(Aa HKK).below (by rw [hH];exact hb4)
 have hky:=Eu.below (Aa HKS) (by rw [hH];exact hb4)
 have z0:=Ad r0
 have z1:=An r1
 have z2:=Af r2
 have z3:=An r3
 have z4:=Af p0
 have HB4:=Ab hb4
 have HR0:=Ab r0
 have HR1:=Ab r1
 have HR2:=Ab r2
 have HR3:=Ab r3
 have HKD:=Ab hkd
 have HKY:=Ab hky
 clear HW0 hW2 hb3 p0 hb4 r0 r1 r2 r3 x0 hkd hky
 rcases Aa HRS with ⟨hne,hq⟩ | ⟨rfl,rfl,hMD,hq⟩
 ·have j1:(e != 0)=true:=by simpa using hne
  have HNE:=Ab hne
  have HQ:=Ab hq
  clear hne hq HRS
  go_upto_region 4 with fail
  go_region_with_o (fail)
  all_goals go_wp2
  all_goals
   have HE:=C3 (B:=H) (g1:=H+1) (g2:=H+1+1) (w:=w) (Aa HB4) (Aa HR1) (Aa HR2) (by omega) (by omega) (by omega) (.int .i64 0) (.int .i64 0) (.int .i64 0) (.int .i64 e) (.int .i64 l')
   exact bodyPost_ret (Al rfl _ _ _ (H+1) (H+1+1) _ _ rfl (Dx HE.2.1) rfl (Ai HE.2.2.1)) rfl ⟨by rw [hH];exact HE.1,⟨0,0,0⟩,e,l',rfl,.inr ⟨Aa HQ,Aa HNE⟩⟩
 ·have HQ:=Ab hq
  have HMD:=Ab hMD
  clear hq HRS hMD
  go_wp2
  go_loopg [6] M (fun g s6 wx=>∃ (i:Nat) (st:P22.Try),i+g=M∧s6=.int .i64 i∧Hid (P22.keysGo P22.triesRd (ks.drop i) (Am (ds.drop i)) st=RES)∧Hid (Below (H+1+1+1) W2 wx)∧Hid (wx.heap[H+1+1+1]?=some (.cells #[.int .i64 st.most,.int .i64 st.first,.int .i64 st.factor] 84))∧H+1+1+1+1≤wx.heap.size)
  case atStart=>exact ⟨0,⟨0,0,0⟩,by omega,by go_num,Ab (Aa HQ).symm,Ab (Below.refl _ _),Ab (Aa HR3),by omega⟩
  case round=>
   obtain ⟨i,st,hig,rfl,HE,HBX,HST,hzx⟩:=hrel
   clear z0 z1 z2 z3 z4
   have y0:=((Aa HBX).block H (by omega)).trans (Aa HR0)
   have y1:=((Aa HBX).block (H+1) (by omega)).trans (Aa HR1)
   have y2:=((Aa HBX).block (H+1+1) (by omega)).trans (Aa HR2)
   have hbw:Below H w wr:=(Aa HB4).trans ((Aa HBX).mono (by omega))
   have z0:=Ad y0
   have z1:=An y1
   have z2:=Af y2
   have z3:=An (Aa HST)
   have HY0:=Ab y0
   have HY1:=Ab y1
   have HY2:=Ab y2
   have HBW:=Ab hbw
   clear y0 y1 y2 hbw
   cases gk with
   | zero=>
    have e1:(M:Int)≤(i:Int):=by omega
    have j1:decide ((i:Int)<(M:Int))=false:=by simp;omega
    have hE:=Aa HE
    rw [List.drop_of_length_le (l:=ds) (by rw [Aa HD,← Aa HMD];omega),List.drop_of_length_le (l:=ks) (by rw [Aa HM];omega)] at hE
    simp only [Am,P22.keysGo] at hE
    have HE2:=Ab hE
    clear hE
    go_wp2
    have HE3:=M8 (B:=H) (g1:=H+1) (g2:=H+1+1) (w:=w) (Aa HBW) (Aa HY1) (Aa HY2) (by omega) (by omega) (by omega) (.int .i64 st.most) (.int .i64 st.first) (.int .i64 st.factor) (.int .i64 0) (.int .i64 0)
    exact bodyPost_ret (Al rfl _ _ _ (H+1) (H+1+1) _ _ rfl (Dx HE3.2.1) rfl (Ai HE3.2.2.1)) rfl ⟨by rw [hH];exact HE3.1,st,0,0,rfl,.inl ⟨(Aa HE2).symm,rfl,rfl⟩⟩
   | succ g'=>
    have hlt:(i:Int)<(M:Int):=by omega
    have hltD:(i:Int)<(D:Int):=by have:=Aa HMD;omega
    have hki:IntKind.i64.wrap ((i:Int)+1)=(i:Int)+1:=IntWalk.i64_in _ (by omega)
    obtain ⟨d,hg1⟩:=V3 (Aa HD) (show i<D by have:=Aa HMD;omega)
    obtain ⟨y,hgy⟩:=V3 (Aa HM) (show i<M by omega)
    have hkf:=Aa HD5 d (List.mem_of_getElem? hg1)
    have hE:=Aa HE
    rw [Cg hg1,show ks.drop i=y :: ks.drop (i+1) by
     obtain ⟨h8,h9⟩:=List.getElem?_eq_some_iff.1 hgy
     rw [List.drop_eq_getElem_cons h8,h9]] at hE
    unfold P22.keysGo at hE
    have HE2:=Ab hE
    clear hE HE
    go_upto_region 9 with fail
    obtain ⟨F,hF⟩:∃ F,wr.heap.size=F:=⟨_,rfl⟩
    obtain ⟨W5,hW5⟩:∃ W5,wr.alloc (.cells #[.int .i64 0,.int .i64 0] 29)=W5:=⟨_,rfl⟩
    rw [hW5]
    rw [hF]
    rw [hF] at hzx
    have hb5:Below F wr W5:=by rw [← hW5];exact (Below.refl _ wr).alloc (by omega) _
    have p5:W5.heap[F]?=some (.cells #[.int .i64 0,.int .i64 0] 29):=by rw [← hW5,← hF];exact World.alloc_heap_new _ _
    have hs5:F+1≤W5.heap.size:=by rw [← hW5];simp;omega
    have hbw5:Below H w W5:=(Aa HBW).trans (hb5.mono (by omega))
    have hbx5:Below (H+1+1+1) W2 W5:=(Aa HBX).trans (hb5.mono (by omega))
    have hst5:=(hb5.block (H+1+1+1) (by omega)).trans (Aa HST)
    have y0:=(hb5.block H (by omega)).trans (Aa HY0)
    have y1:=(hb5.block (H+1) (by omega)).trans (Aa HY1)
    have y2:=(hb5.block (H+1+1) (by omega)).trans (Aa HY2)
    obtain ⟨b3,o3,rfl,hky⟩:=Eu.below (Aa HKS) (by rw [hH];exact hbw5) i y hgy
    obtain ⟨b2,o2,k1,t1,ka1,kc1,ks1,da1,dc1,ds1,l1,rfl,rfl,v0,v1,v2,v3,v4,hin1⟩:=Ce ((Aa HKK).below (by rw [hH];exact hbw5)) hg1
    clear z0 z1 z2 z3
    have z0:=Ad y0
    have z3:=An hst5
    have z5:=Af p5
    have HP5:=Ab p5
    have HB5:=Ab hb5
    have HBW5:=Ab hbw5
    have HBX5:=Ab hbx5
    have HST5:=Ab hst5
    have HY5:=Ab y1
    have HY6:=Ab y2
    have HKF:=Ab hkf
    have HGY:=Ab hgy
    have HIN1:=Ab hin1
    clear hW5 p5 hb5 hbw5 hbx5 hst5 y0 y1 y2 HY0 HY1 HY2 HBW HBX HST hkf hgy hg1 hin1
    by_cases n0:y=[109,111,115,116]
    ·subst n0
     have hrd:P22.triesRd [109,111,115,116]=some (fun d s=>(P22.numE d).map fun n=>{ s with most:=n }):=rfl
     have hE:=Aa HE2
     rw [hrd] at hE
     have c0:([109,111,115,116] == [109,111,115,116])=true:=by decide
     obtain ⟨v,ec,el,hnu,hrn⟩:=Ex k1 t1 ka1 kc1 ks1 da1 dc1 ds1 l1 (Aa HKF)
     have HNU:=Ab (hnu W5)
     have HRN:=Ab hrn
     have HE3:=Ab hE
     clear hnu hrn hE HE2 hrd
     go_upto_region 17 with (go_at_call 96;refine (Aa HNU).mono ?_;rintro x6 w6 ⟨rfl,hb6⟩;have hz6:=hb6.size;have a3:=(hb6.block (H+1+1+1) (by omega)).trans (Aa HST5);have aF:=(hb6.block F (by omega)).trans (Aa HP5);have zz3:=An a3;have zzF:=Af aF;have HB6:=Ab hb6;have HA3:=Ab a3;have HAF:=Ab aF;clear hb6 a3 aF)
     have hb7:Below (H+1+1+1) W2 w6:=(Aa HBX5).trans ((Aa HB6).mono (by omega))
     obtain ⟨e1,e2,e3,e4⟩:=Cr hb7 (Aa HA3) 0 (.int .i64 v)
     obtain ⟨f1,f2,f3,f4,f5⟩:=C6 (F:=F) e1 e2 ((e3 F (by omega)).trans (Aa HAF)) (by omega) (.int .i64 ec) (.int .i64 el)
     obtain ⟨W8,hW8⟩:∃ W8,((w6.setCell ⟨H+1+1+1,0,none⟩ (.int .i64 v)).setCell ⟨F,0,none⟩ (.int .i64 ec)).setCell ⟨F,1,none⟩ (.int .i64 el)=W8:=⟨_,rfl⟩
     rw [hW8] at f1 f2 f3 f4 f5 ⊢
     obtain ⟨st',hst'⟩:∃ st':P22.Try,{ st with most:=v }=st':=⟨_,rfl⟩
     have f2':W8.heap[H+1+1+1]?=some (.cells #[.int .i64 st'.most,.int .i64 st'.first,.int .i64 st'.factor] 84):=by rw [← hst'];exact f2
     have y0:=(f1.block H (by omega)).trans (Aa HR0)
     have y1:=(f1.block (H+1) (by omega)).trans (Aa HR1)
     have y2:=(f1.block (H+1+1) (by omega)).trans (Aa HR2)
     have hbw8:Below H w W8:=(Aa HB4).trans (f1.mono (by omega))
     clear z0 z3 z5 v0 v1 v2 v3 v4 hky zz3 zzF
     have z0:=Ad y0
     have z1:=An y1
     have z2:=Af y2
     have z3:=An f2'
     have z5:=Af f3
     have hs8:=hz6
     have HBW8:=Ab hbw8
     have HF1:=Ab f1
     have HF2:=Ab f2'
     have HY1:=Ab y1
     have HY2:=Ab y2
     have HS8:=Ab (show H+1+1+1+1≤W8.heap.size by rw [f5,e4];omega)
     clear hbw8 f1 f2 f2' f3 f4 f5 e1 e2 e3 e4 y0 y1 y2 hW8 hb7 HA3 HAF HB6 HB5 HP5 HST5 HBX5 HBW5 HY5 HY6 HNU
     rcases Aa HRN with ⟨hr,rfl,rfl⟩ | ⟨hr,hne⟩
     ·have hE:=Aa HE3
      rw [hr] at hE
      have hE2:P22.keysGo P22.triesRd (ks.drop (i+1)) (Am (ds.drop (i+1))) st'=RES:=by rw [← hst'];exact hE
      have HE4:=Ab hE2
      clear hE hE2 hr HE3 HRN hst'
      go_wp2
      go_roundg g'
      case measure=>omega
      case rel=>exact ⟨i+1,st',by omega,by go_num,HE4,HF1,HF2,Aa HS8⟩
     ·have j1:(ec != 0)=true:=by simpa using hne
      have hE:=Aa HE3
      rw [hr] at hE
      have HE4:=Ab (show RES=.error (ec,el) from hE.symm)
      have HNE:=Ab hne
      clear hE hr HE3 HRN hst' hne
      go_upto_region 18 with fail
      go_region_with_o (fail)
      all_goals go_wp2
      all_goals
       have HE:=C3 (B:=H) (g1:=H+1) (g2:=H+1+1) (w:=w) (Aa HBW8) (Aa HY1) (Aa HY2) (by omega) (by omega) (by omega) (.int .i64 st'.most) (.int .i64 st'.first) (.int .i64 st'.factor) (.int .i64 ec) (.int .i64 el)
       exact bodyPost_ret (Al rfl _ _ _ (H+1) (H+1+1) _ _ rfl (Dx HE.2.1) rfl (Ai HE.2.2.1)) rfl ⟨by rw [hH];exact HE.1,st',ec,el,rfl,.inr ⟨Aa HE4,Aa HNE⟩⟩
    by_cases n1:y=[102,105,114,115,116]
    ·subst n1
     have hrd:P22.triesRd [102,105,114,115,116]=some (fun d s=>(P22.numE d).map fun n=>{ s with first:=n }):=rfl
     have hE:=Aa HE2
     rw [hrd] at hE
     have c1:([102,105,114,115,116] == [102,105,114,115,116])=true:=by decide
     have c0:([102,105,114,115,116] == [109,111,115,116])=false:=by decide
     obtain ⟨v,ec,el,hnu,hrn⟩:=Ex k1 t1 ka1 kc1 ks1 da1 dc1 ds1 l1 (Aa HKF)
     have HNU:=Ab (hnu W5)
     have HRN:=Ab hrn
     have HE3:=Ab hE
     clear hnu hrn hE HE2 hrd
     go_upto_region 17 with (go_at_call 96;refine (Aa HNU).mono ?_;rintro x6 w6 ⟨rfl,hb6⟩;have hz6:=hb6.size;have a3:=(hb6.block (H+1+1+1) (by omega)).trans (Aa HST5);have aF:=(hb6.block F (by omega)).trans (Aa HP5);have zz3:=An a3;have zzF:=Af aF;have HB6:=Ab hb6;have HA3:=Ab a3;have HAF:=Ab aF;clear hb6 a3 aF)
     have hb7:Below (H+1+1+1) W2 w6:=(Aa HBX5).trans ((Aa HB6).mono (by omega))
     obtain ⟨e1,e2,e3,e4⟩:=Cr hb7 (Aa HA3) 1 (.int .i64 v)
     obtain ⟨f1,f2,f3,f4,f5⟩:=C6 (F:=F) e1 e2 ((e3 F (by omega)).trans (Aa HAF)) (by omega) (.int .i64 ec) (.int .i64 el)
     obtain ⟨W8,hW8⟩:∃ W8,((w6.setCell ⟨H+1+1+1,1,none⟩ (.int .i64 v)).setCell ⟨F,0,none⟩ (.int .i64 ec)).setCell ⟨F,1,none⟩ (.int .i64 el)=W8:=⟨_,rfl⟩
     rw [hW8] at f1 f2 f3 f4 f5 ⊢
     obtain ⟨st',hst'⟩:∃ st':P22.Try,{ st with first:=v }=st':=⟨_,rfl⟩
     have f2':W8.heap[H+1+1+1]?=some (.cells #[.int .i64 st'.most,.int .i64 st'.first,.int .i64 st'.factor] 84):=by rw [← hst'];exact f2
     have y0:=(f1.block H (by omega)).trans (Aa HR0)
     have y1:=(f1.block (H+1) (by omega)).trans (Aa HR1)
     have y2:=(f1.block (H+1+1) (by omega)).trans (Aa HR2)
     have hbw8:Below H w W8:=(Aa HB4).trans (f1.mono (by omega))
     clear z0 z3 z5 v0 v1 v2 v3 v4 hky zz3 zzF
     have z0:=Ad y0
     have z1:=An y1
     have z2:=Af y2
     have z3:=An f2'
     have z5:=Af f3
     have hs8:=hz6
     have HBW8:=Ab hbw8
     have HF1:=Ab f1
     have HF2:=Ab f2'
     have HY1:=Ab y1
     have HY2:=Ab y2
     have HS8:=Ab (show H+1+1+1+1≤W8.heap.size by rw [f5,e4];omega)
     clear hbw8 f1 f2 f2' f3 f4 f5 e1 e2 e3 e4 y0 y1 y2 hW8 hb7 HA3 HAF HB6 HB5 HP5 HST5 HBX5 HBW5 HY5 HY6 HNU
     rcases Aa HRN with ⟨hr,rfl,rfl⟩ | ⟨hr,hne⟩
     ·have hE:=Aa HE3
      rw [hr] at hE
      have hE2:P22.keysGo P22.triesRd (ks.drop (i+1)) (Am (ds.drop (i+1))) st'=RES:=by rw [← hst'];exact hE
      have HE4:=Ab hE2
      clear hE hE2 hr HE3 HRN hst'
      go_wp2
      go_roundg g'
      case measure=>omega
      case rel=>exact ⟨i+1,st',by omega,by go_num,HE4,HF1,HF2,Aa HS8⟩
     ·have j1:(ec != 0)=true:=by simpa using hne
      have hE:=Aa HE3
      rw [hr] at hE
      have HE4:=Ab (show RES=.error (ec,el) from hE.symm)
      have HNE:=Ab hne
      clear hE hr HE3 HRN hst' hne
      go_upto_region 18 with fail
      go_region_with_o (fail)
      all_goals go_wp2
      all_goals
       have HE:=C3 (B:=H) (g1:=H+1) (g2:=H+1+1) (w:=w) (Aa HBW8) (Aa HY1) (Aa HY2) (by omega) (by omega) (by omega) (.int .i64 st'.most) (.int .i64 st'.first) (.int .i64 st'.factor) (.int .i64 ec) (.int .i64 el)
       exact bodyPost_ret (Al rfl _ _ _ (H+1) (H+1+1) _ _ rfl (Dx HE.2.1) rfl (Ai HE.2.2.1)) rfl ⟨by rw [hH];exact HE.1,st',ec,el,rfl,.inr ⟨Aa HE4,Aa HNE⟩⟩
    by_cases n2:y=[102,97,99,116,111,114]
    ·subst n2
     have hrd:P22.triesRd [102,97,99,116,111,114]=some (fun d s=>(P22.numE d).map fun n=>{ s with factor:=n }):=rfl
     have hE:=Aa HE2
     rw [hrd] at hE
     have c2:([102,97,99,116,111,114] == [102,97,99,116,111,114])=true:=by decide
     have c0:([102,97,99,116,111,114] == [109,111,115,116])=false:=by decide
     have c1:([102,97,99,116,111,114] == [102,105,114,115,116])=false:=by decide
     obtain ⟨v,ec,el,hnu,hrn⟩:=Ex k1 t1 ka1 kc1 ks1 da1 dc1 ds1 l1 (Aa HKF)
     have HNU:=Ab (hnu W5)
     have HRN:=Ab hrn
     have HE3:=Ab hE
     clear hnu hrn hE HE2 hrd
     go_upto_region 17 with (go_at_call 96;refine (Aa HNU).mono ?_;rintro x6 w6 ⟨rfl,hb6⟩;have hz6:=hb6.size;have a3:=(hb6.block (H+1+1+1) (by omega)).trans (Aa HST5);have aF:=(hb6.block F (by omega)).trans (Aa HP5);have zz3:=An a3;have zzF:=Af aF;have HB6:=Ab hb6;have HA3:=Ab a3;have HAF:=Ab aF;clear hb6 a3 aF)
     have hb7:Below (H+1+1+1) W2 w6:=(Aa HBX5).trans ((Aa HB6).mono (by omega))
     obtain ⟨e1,e2,e3,e4⟩:=Cr hb7 (Aa HA3) 2 (.int .i64 v)
     obtain ⟨f1,f2,f3,f4,f5⟩:=C6 (F:=F) e1 e2 ((e3 F (by omega)).trans (Aa HAF)) (by omega) (.int .i64 ec) (.int .i64 el)
     obtain ⟨W8,hW8⟩:∃ W8,((w6.setCell ⟨H+1+1+1,2,none⟩ (.int .i64 v)).setCell ⟨F,0,none⟩ (.int .i64 ec)).setCell ⟨F,1,none⟩ (.int .i64 el)=W8:=⟨_,rfl⟩
     rw [hW8] at f1 f2 f3 f4 f5 ⊢
     obtain ⟨st',hst'⟩:∃ st':P22.Try,{ st with factor:=v }=st':=⟨_,rfl⟩
     have f2':W8.heap[H+1+1+1]?=some (.cells #[.int .i64 st'.most,.int .i64 st'.first,.int .i64 st'.factor] 84):=by rw [← hst'];exact f2
     have y0:=(f1.block H (by omega)).trans (Aa HR0)
     have y1:=(f1.block (H+1) (by omega)).trans (Aa HR1)
     have y2:=(f1.block (H+1+1) (by omega)).trans (Aa HR2)
     have hbw8:Below H w W8:=(Aa HB4).trans (f1.mono (by omega))
     clear z0 z3 z5 v0 v1 v2 v3 v4 hky zz3 zzF
     have z0:=Ad y0
     have z1:=An y1
     have z2:=Af y2
     have z3:=An f2'
     have z5:=Af f3
     have hs8:=hz6
     have HBW8:=Ab hbw8
     have HF1:=Ab f1
     have HF2:=Ab f2'
     have HY1:=Ab y1
     have HY2:=Ab y2
     have HS8:=Ab (show H+1+1+1+1≤W8.heap.size by rw [f5,e4];omega)
     clear hbw8 f1 f2 f2' f3 f4 f5 e1 e2 e3 e4 y0 y1 y2 hW8 hb7 HA3 HAF HB6 HB5 HP5 HST5 HBX5 HBW5 HY5 HY6 HNU
     rcases Aa HRN with ⟨hr,rfl,rfl⟩ | ⟨hr,hne⟩
     ·have hE:=Aa HE3
      rw [hr] at hE
      have hE2:P22.keysGo P22.triesRd (ks.drop (i+1)) (Am (ds.drop (i+1))) st'=RES:=by rw [← hst'];exact hE
      have HE4:=Ab hE2
      clear hE hE2 hr HE3 HRN hst'
      go_wp2
      go_roundg g'
      case measure=>omega
      case rel=>exact ⟨i+1,st',by omega,by go_num,HE4,HF1,HF2,Aa HS8⟩
     ·have j1:(ec != 0)=true:=by simpa using hne
      have hE:=Aa HE3
      rw [hr] at hE
      have HE4:=Ab (show RES=.error (ec,el) from hE.symm)
      have HNE:=Ab hne
      clear hE hr HE3 HRN hst' hne
      go_upto_region 18 with fail
      go_region_with_o (fail)
      all_goals go_wp2
      all_goals
       have HE:=C3 (B:=H) (g1:=H+1) (g2:=H+1+1) (w:=w) (Aa HBW8) (Aa HY1) (Aa HY2) (by omega) (by omega) (by omega) (.int .i64 st'.most) (.int .i64 st'.first) (.int .i64 st'.factor) (.int .i64 ec) (.int .i64 el)
       exact bodyPost_ret (Al rfl _ _ _ (H+1) (H+1+1) _ _ rfl (Dx HE.2.1) rfl (Ai HE.2.2.1)) rfl ⟨by rw [hH];exact HE.1,st',ec,el,rfl,.inr ⟨Aa HE4,Aa HNE⟩⟩
    have hrd:P22.triesRd y=none:=by unfold P22.triesRd;rw [if_neg n0,if_neg n1,if_neg n2]
    have hE:=Aa HE2
    rw [hrd] at hE
    have HE4:=Ab (show RES=.error (18,l1) from hE.symm)
    have c0:(y == [109,111,115,116])=false:=by simpa using n0
    have c1:(y == [102,105,114,115,116])=false:=by simpa using n1
    have c2:(y == [102,97,99,116,111,114])=false:=by simpa using n2
    clear hE HE2 hrd
    go_upto_region 17 with fail
    obtain ⟨f1,f2,f3,f4,f5⟩:=C6 (F:=F) (Aa HBX5) (Aa HST5) (Aa HP5) (by omega) (.int .i64 18) (.int .i64 l1)
    obtain ⟨W8,hW8⟩:∃ W8,(W5.setCell ⟨F,0,none⟩ (.int .i64 18)).setCell ⟨F,1,none⟩ (.int .i64 l1)=W8:=⟨_,rfl⟩
    rw [hW8] at f1 f2 f3 f4 f5 ⊢
    have y0:=(f1.block H (by omega)).trans (Aa HR0)
    have y1:=(f1.block (H+1) (by omega)).trans (Aa HR1)
    have y2:=(f1.block (H+1+1) (by omega)).trans (Aa HR2)
    have hbw8:Below H w W8:=(Aa HB4).trans (f1.mono (by omega))
    clear z0 z3 z5 v0 v1 v2 v3 v4 hky
    have z0:=Ad y0
    have z1:=An y1
    have z2:=Af y2
    have z3:=An f2
    have z5:=Af f3
    have HBW8:=Ab hbw8
    have HY1:=Ab y1
    have HY2:=Ab y2
    clear hbw8 f1 f2 f3 f4 f5 y0 y1 y2 hW8 HB5 HP5 HST5 HBX5 HBW5 HY5 HY6
    go_upto_region 18 with fail
    go_region_with_o (fail)
    all_goals go_wp2
    all_goals
     have HE:=C3 (B:=H) (g1:=H+1) (g2:=H+1+1) (w:=w) (Aa HBW8) (Aa HY1) (Aa HY2) (by omega) (by omega) (by omega) (.int .i64 st.most) (.int .i64 st.first) (.int .i64 st.factor) (.int .i64 18) (.int .i64 l1)
     exact bodyPost_ret (Al rfl _ _ _ (H+1) (H+1+1) _ _ rfl (Dx HE.2.1) rfl (Ai HE.2.2.1)) rfl ⟨by rw [hH];exact HE.1,st,18,l1,rfl,.inr ⟨Aa HE4,by decide⟩⟩
end Go.Proofs.YtnjokdbblmlhhaaGreatDoor
