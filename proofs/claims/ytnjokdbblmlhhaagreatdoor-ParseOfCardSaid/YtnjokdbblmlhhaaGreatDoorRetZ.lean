/- Lemmas of this claim. -/
import Derived.Test.YtnjokdbblmlhhaaGreatDoorInvZ
import Derived.Test.YtnjokdbblmlhhaaGreatDoorW22sZ
import Derived.Test.YtnjokdbblmlhhaaGreatDoorW22fZ
namespace Go.Proofs.YtnjokdbblmlhhaaGreatDoor
set_option linter.unusedVariables false
set_option linter.unusedSimpArgs false
open Go.RowKit
theorem Qh (n i:Nat):(Array.replicate n false).getD i false=false:=by
 simp only [Array.getD]
 split<;>simp
theorem G5 {a:Act} {t:Tmp} {v:Value} (h:t<a.tmps.size):(a.put (some t) v).tmps.getD t undef=v:=by
 simp [Act.put,Array.getD,h]
theorem Bz {a:Act} {t u:Tmp} {v:Value} (h:t≠u):(a.put (some t) v).tmps.getD u undef=a.tmps.getD u undef:=by
 simp only [Act.put,Array.getD_eq_getD_getElem?]
 rw [Array.getElem?_setIfInBounds_ne h]
theorem G8 {a:Act} {t:Tmp} {v:Value}:(a.put (some t) v).tmps.size=a.tmps.size:=by simp [Act.put]
theorem Fh {a:Act} {t:Option Tmp} {v:Value}:(a.put t v).defers=a.defers:=by
 cases t<;>rfl
set_option maxRecDepth 100000 in
set_option maxHeartbeats 4000000 in
theorem Pj {id:Nat} {T y0 y1 y2 y3 y4 y5:TypeId} {s0 s1 s2 s3 s4 s5:String} {x y t0 t1 t2 t3 p q:Nat} {c l:Int} {bx by' g1 g2 n:Nat} {cs old:Array Value} {u0 u1 u2 u3 e0 e1:Value} {NT:TypeId} {a0:Act} {w0:World} {Q:Exit→Act→World→Prop}
  (hz:a0.tmps.size=n) (h01:t0<t1) (h12:t1<t2) (h23:t2<t3) (h3n:t3<n) (hx0:x<t0) (hy0:y<t0) (hp0:p<t0) (hq0:q<t0)
  (hx:a0.tmps.getD x undef=.pointer (some ⟨bx,0,none⟩)) (hy:a0.tmps.getD y undef=.pointer (some ⟨by',0,none⟩)) (hp:a0.tmps.getD p undef=.pointer (some ⟨g1,0,none⟩)) (hq:a0.tmps.getD q undef=.pointer (some ⟨g2,0,none⟩))
  (hne:g1≠g2) (hbx1:bx≠g1) (hbx2:bx≠g2) (hby1:by'≠g1) (hby2:by'≠g2)
  (hcx:w0.heap[bx]?=some (.cells cs T)) (hcy:w0.heap[by']?=some (.cells #[u0,u1,u2,u3,.int .i64 l] NT)) (hc1:w0.heap[g1]?=some (.cells old T)) (hc2:w0.heap[g2]?=some (.cells #[e0,e1] 29))
  (hwl:∀ (o:Oper) (a:Act) (w:World) (K:Act→World→Prop),o.op=.load T (.tmp x)→a.eval (.tmp x)=.pointer (some ⟨bx,0,none⟩)→w.heap[bx]?=some (.cells cs T)→K (a.put o.dst (.agg cs)) w→o.wp Tryz.prog a w K Q) (hi:(Tryz.prog.info? T).map (·.size)=some cs.size) (hold:old.size=cs.size) (hone:cs.all (·.oneCell')=true)
  (hQ:∀ a w,a.defers=a0.defers→a.tmps.getD p undef=.pointer (some ⟨g1,0,none⟩)→a.tmps.getD q undef=.pointer (some ⟨g2,0,none⟩)→Q8 g1 g2 w0 w→w.heap[g1]?=some (.cells cs T)→w.heap[g2]?=some (.cells #[.int .i64 c,.int .i64 l] 29)→Q .normal a w) :
  (Code.region id #[{ dst:=some t0,op:=.load T (.tmp x),type:=y0,pos:=s0,after:=#[],guard:=none },
   { dst:=some t1,op:=.fieldAddr 26 (.tmp y) 4,type:=y1,pos:=s1,after:=#[{ on:=4,ground:=.gcOnly .lateStores }],guard:=none },
   { dst:=some t2,op:=.load 3 (.tmp t1),type:=y2,pos:=s2,after:=#[{ on:=1,ground:=.data },{ on:=4,ground:=.gcOnly .lateStores }],guard:=none },
   { dst:=some t3,op:=.build 29 #[(0,.const (.int .i64 c)),(1,.tmp t2)],type:=y3,pos:=s3,after:=#[{ on:=2,ground:=.data },{ on:=4,ground:=.gcOnly .lateStores }],guard:=none },
   { dst:=none,op:=.store T (.tmp p) (.tmp t0),type:=y4,pos:=s4,after:=#[{ on:=0,ground:=.data },{ on:=0,ground:=.phase },{ on:=1,ground:=.textOnly .lateStores },{ on:=2,ground:=.textOnly .lateStores },{ on:=3,ground:=.textOnly .lateStores }],guard:=none },
   { dst:=none,op:=.store 29 (.tmp q) (.tmp t3),type:=y5,pos:=s5,after:=#[{ on:=3,ground:=.data },{ on:=4,ground:=.chain },{ on:=0,ground:=.phase },{ on:=1,ground:=.phase },{ on:=2,ground:=.phase },{ on:=3,ground:=.phase },{ on:=4,ground:=.phase }],guard:=none }] true).wp Tryz.prog Q a0 w0:=by
 have nt0x:t0≠x:=by omega
 have nt0y:t0≠y:=by omega
 have nt0p:t0≠p:=by omega
 have nt0q:t0≠q:=by omega
 have nt0t1:t0≠t1:=by omega
 have nt0t2:t0≠t2:=by omega
 have nt0t3:t0≠t3:=by omega
 have nt1x:t1≠x:=by omega
 have nt1y:t1≠y:=by omega
 have nt1p:t1≠p:=by omega
 have nt1q:t1≠q:=by omega
 have nt1t0:t1≠t0:=by omega
 have nt1t2:t1≠t2:=by omega
 have nt1t3:t1≠t3:=by omega
 have nt2x:t2≠x:=by omega
 have nt2y:t2≠y:=by omega
 have nt2p:t2≠p:=by omega
 have nt2q:t2≠q:=by omega
 have nt2t0:t2≠t0:=by omega
 have nt2t1:t2≠t1:=by omega
 have nt2t3:t2≠t3:=by omega
 have nt3x:t3≠x:=by omega
 have nt3y:t3≠y:=by omega
 have nt3p:t3≠p:=by omega
 have nt3q:t3≠q:=by omega
 have nt3t0:t3≠t0:=by omega
 have nt3t1:t3≠t1:=by omega
 have nt3t2:t3≠t2:=by omega
 have zt0:t0<n:=by omega
 have zt1:t1<n:=by omega
 have zt2:t2<n:=by omega
 have zt3:t3<n:=by omega
 refine Em Dl (fun L a w=>L.size=6∧a.defers=a0.defers∧a.tmps.size=n∧a.tmps.getD x undef=.pointer (some ⟨bx,0,none⟩)∧a.tmps.getD y undef=.pointer (some ⟨by',0,none⟩)∧a.tmps.getD p undef=.pointer (some ⟨g1,0,none⟩)∧a.tmps.getD q undef=.pointer (some ⟨g2,0,none⟩) ∧
  (L.getD 0 false=true→a.tmps.getD t0 undef=.agg cs)∧(L.getD 1 false=true→a.tmps.getD t1 undef=.pointer (some ⟨by',4,none⟩))∧(L.getD 2 false=true→a.tmps.getD t2 undef=.int .i64 l)∧(L.getD 3 false=true→a.tmps.getD t3 undef=.agg #[.int .i64 c,.int .i64 l]) ∧
  Q8 g1 g2 w0 w∧(L.getD 4 false=false→w.heap[g1]?=some (.cells old T))∧(L.getD 4 false=true→w.heap[g1]?=some (.cells cs T))∧(L.getD 5 false=false→w.heap[g2]?=some (.cells #[e0,e1] 29))∧(L.getD 5 false=true→w.heap[g2]?=some (.cells #[.int .i64 c,.int .i64 l] 29))) (by kernel_rfl) ?_ ?_ ?_
 ·refine ⟨by simp,rfl,hz,hx,hy,hp,hq,?_,?_,?_,?_,⟨Nat.le_refl _,fun _ _ _=>rfl,rfl,rfl,rfl⟩,fun _=>hc1,?_,fun _=>hc2,?_⟩
  all_goals (intro h;rw [Qh] at h;cases h)
 ·rintro L a w i o ⟨hL,hdf,hz',kx,ky,kp,kq,f0,f1,f2,f3,hB,n4,y4',n5,y5'⟩ ho hi' hdep
  match i,ho with
  | 0,ho=>
   cases ho
   refine Ak rfl rfl ?_
   refine Oper.wp_mono (K:=fun a2 w2=>a2=a.put (some t0) (.agg cs)∧w2=w) (fun a2 w2 he=>?_) (hwl _ _ _ _ rfl kx ((hB.same bx hbx1 hbx2).trans hcx) ⟨rfl,rfl⟩)
   obtain ⟨rfl,rfl⟩:=he
   exact ⟨by simp [hL],Fh.trans hdf,G8.trans hz',(Bz nt0x).trans kx,(Bz nt0y).trans ky,(Bz nt0p).trans kp,(Bz nt0q).trans kq,fun _=>G5 (by rw [hz'];exact zt0),fun h=>(Bz nt0t1).trans (f1 (Ac (by omega) h)),fun h=>(Bz nt0t2).trans (f2 (Ac (by omega) h)),fun h=>(Bz nt0t3).trans (f3 (Ac (by omega) h)),hB,fun h=>n4 (by rwa [getD_set_ne false (by omega)] at h),fun h=>y4' (Ac (by omega) h),fun h=>n5 (by rwa [getD_set_ne false (by omega)] at h),fun h=>y5' (Ac (by omega) h)⟩
  | 1,ho=>
   cases ho
   refine Ak rfl rfl ?_
   have ky':a.tmps[y]?.getD undef=.pointer (some ⟨by',0,none⟩):=by simpa using ky
   refine Oper.wp_mono (K:=fun a2 w2=>a2=a.put (some t1) (.pointer (some ⟨by',4,none⟩))∧w2=w) (fun a2 w2 he=>?_) (by simp [Oper.wp,go_sem,ky'])
   obtain ⟨rfl,rfl⟩:=he
   exact ⟨by simp [hL],Fh.trans hdf,G8.trans hz',(Bz nt1x).trans kx,(Bz nt1y).trans ky,(Bz nt1p).trans kp,(Bz nt1q).trans kq,fun h=>(Bz nt1t0).trans (f0 (Ac (by omega) h)),fun _=>G5 (by rw [hz'];exact zt1),fun h=>(Bz nt1t2).trans (f2 (Ac (by omega) h)),fun h=>(Bz nt1t3).trans (f3 (Ac (by omega) h)),hB,fun h=>n4 (by rwa [getD_set_ne false (by omega)] at h),fun h=>y4' (Ac (by omega) h),fun h=>n5 (by rwa [getD_set_ne false (by omega)] at h),fun h=>y5' (Ac (by omega) h)⟩
  | 2,ho=>
   cases ho
   refine Ak rfl rfl ?_
   have k1:=f1 (hdep ⟨1,.data⟩ (by simp) rfl)
   have k1':a.tmps[t1]?.getD undef=.pointer (some ⟨by',4,none⟩):=by simpa using k1
   have z0:=Ad ((hB.same by' hby1 hby2).trans hcy)
   refine Oper.wp_mono (K:=fun a2 w2=>a2=a.put (some t2) (.int .i64 l)∧w2=w) (fun a2 w2 he=>?_) (by simp [Oper.wp,go_sem,k1',z0])
   obtain ⟨rfl,rfl⟩:=he
   exact ⟨by simp [hL],Fh.trans hdf,G8.trans hz',(Bz nt2x).trans kx,(Bz nt2y).trans ky,(Bz nt2p).trans kp,(Bz nt2q).trans kq,fun h=>(Bz nt2t0).trans (f0 (Ac (by omega) h)),fun h=>(Bz nt2t1).trans (f1 (Ac (by omega) h)),fun _=>G5 (by rw [hz'];exact zt2),fun h=>(Bz nt2t3).trans (f3 (Ac (by omega) h)),hB,fun h=>n4 (by rwa [getD_set_ne false (by omega)] at h),fun h=>y4' (Ac (by omega) h),fun h=>n5 (by rwa [getD_set_ne false (by omega)] at h),fun h=>y5' (Ac (by omega) h)⟩
  | 3,ho=>
   cases ho
   refine Ak rfl rfl ?_
   have k2:=f2 (hdep ⟨2,.data⟩ (by simp) rfl)
   have k2':a.tmps[t2]?.getD undef=.int .i64 l:=by simpa using k2
   refine Oper.wp_mono (K:=fun a2 w2=>a2=a.put (some t3) (.agg #[.int .i64 c,.int .i64 l])∧w2=w) (fun a2 w2 he=>?_) (by simp [Oper.wp,go_sem,k2'])
   obtain ⟨rfl,rfl⟩:=he
   exact ⟨by simp [hL],Fh.trans hdf,G8.trans hz',(Bz nt3x).trans kx,(Bz nt3y).trans ky,(Bz nt3p).trans kp,(Bz nt3q).trans kq,fun h=>(Bz nt3t0).trans (f0 (Ac (by omega) h)),fun h=>(Bz nt3t1).trans (f1 (Ac (by omega) h)),fun h=>(Bz nt3t2).trans (f2 (Ac (by omega) h)),fun _=>G5 (by rw [hz'];exact zt3),hB,fun h=>n4 (by rwa [getD_set_ne false (by omega)] at h),fun h=>y4' (Ac (by omega) h),fun h=>n5 (by rwa [getD_set_ne false (by omega)] at h),fun h=>y5' (Ac (by omega) h)⟩
  | 4,ho=>
   cases ho
   refine Ak rfl rfl ?_
   have k0:=f0 (hdep ⟨0,.data⟩ (by simp) rfl)
   refine Oper.wp_mono (K:=fun a2 w2=>a2=a∧w2=w.setRow g1 cs) (fun a2 w2 he=>?_) (wp_store_row T (.tmp p) (.tmp t0) rfl g1 cs kp k0 T old (n4 (A4 hi').2) hi hold hone ⟨rfl,rfl⟩)
   obtain ⟨rfl,rfl⟩:=he
   exact ⟨by simp [hL],hdf,hz',kx,ky,kp,kq,fun h=>f0 (Ac (by omega) h),fun h=>f1 (Ac (by omega) h),fun h=>f2 (Ac (by omega) h),fun h=>f3 (Ac (by omega) h),hB.step (by simp [World.setRow]) (fun g h1 h2=>Br h1) rfl rfl rfl,fun h=>by (rw [Bm hi'] at h;cases h),fun _=>setRow_heap _ _ _ _ _ _ (n4 (A4 hi').2),fun h=>(Br (Ne.symm hne)).trans (n5 (by rwa [getD_set_ne false (by omega)] at h)),fun h=>(Br (Ne.symm hne)).trans (y5' (Ac (by omega) h))⟩
  | 5,ho=>
   cases ho
   refine Ak rfl rfl ?_
   have k3:=f3 (hdep ⟨3,.data⟩ (by simp) rfl)
   refine Oper.wp_mono (K:=fun a2 w2=>a2=a∧w2=w.setRow g2 #[.int .i64 c,.int .i64 l]) (fun a2 w2 he=>?_) (wp_store_row 29 (.tmp q) (.tmp t3) rfl g2 #[.int .i64 c,.int .i64 l] kq k3 29 #[e0,e1] (n5 (A4 hi').2) (by kernel_rfl) rfl (by simp [Value.oneCell']) ⟨rfl,rfl⟩)
   obtain ⟨rfl,rfl⟩:=he
   exact ⟨by simp [hL],hdf,hz',kx,ky,kp,kq,fun h=>f0 (Ac (by omega) h),fun h=>f1 (Ac (by omega) h),fun h=>f2 (Ac (by omega) h),fun h=>f3 (Ac (by omega) h),hB.step (by simp [World.setRow]) (fun g h1 h2=>Br h2) rfl rfl rfl,fun h=>(Br hne).trans (n4 (by rwa [getD_set_ne false (by omega)] at h)),fun h=>(Br hne).trans (y4' (Ac (by omega) h)),fun h=>by (rw [Bm hi'] at h;cases h),fun _=>setRow_heap _ _ _ _ _ _ (n5 (A4 hi').2)⟩
  | n+6,ho=>exact absurd ho (by simp)
 ·rintro L a w ⟨hL,hdf,hz',kx,ky,kp,kq,f0,f1,f2,f3,hB,n4,y4',n5,y5'⟩ hall
  have hall':∀ i,i<6→L.getD i false=true:=fun i hi=>by
   have:=hall i
   have hi':i<L.size:=by omega
   simp only [Array.getD,hi',dif_pos] at this ⊢
   exact this
  exact hQ a w hdf kp kq hB (y4' (hall' 4 (by omega))) (y5' (hall' 5 (by omega)))
theorem Pi {x bx:Nat} {cs:Array Value} (hs:cs.size=13) {Q:Exit→Act→World→Prop} (o:Oper) (a:Act) (w:World) (K:Act→World→Prop) (ho:o.op=.load 86 (.tmp x)) (he:a.eval (.tmp x)=.pointer (some ⟨bx,0,none⟩)) (hg:w.heap[bx]?=some (.cells cs 86)) (hk:K (a.put o.dst (.agg cs)) w):o.wp Tryz.prog a w K Q:=
 wp_load_row 86 (.tmp x) ho bx he 86 cs (0,0) _ hg Tryz.underlying86 rfl (by rw [hs];kernel_rfl) hk
end Go.Proofs.YtnjokdbblmlhhaaGreatDoor
