/- The reference's Value, keys: keys that are wrong. -/
import Derived.Test.YtnjokdbblmlhhaaGreatDoorWR20k0
namespace Go.Proofs.YtnjokdbblmlhhaaGreatDoor
set_option linter.unusedVariables false
set_option linter.unusedSimpArgs false
open Go.RowKit
attribute [local go_sem] tokField1 tokField2
set_option maxRecDepth 100000 in
set_option maxHeartbeats 8000000 in
theorem kc_long (last : Int) (lv : Nat) (w : World) (H B rb : Nat) (all : List Tk) (hl0 : Int) (ks : List (List UInt8)) (ds : List Nd) (ka da : Option Addr) (kc dc : Nat) (x : List UInt8) (n c : Int) (r : List Tk) (wr : World) {K K1 : Act → World → Prop} {R : Ending → World → Prop}
    (hvi : VI w H B rb all hl0 3 ks ds (.slice ka ks.length kc) (.slice da ds.length dc) ((4, x, n, c) :: r) wr) (hla : lastLn all = last) (jl : (lv : Int) ≤ 16) (hlk : ks.length ≤ 999999) (hld : ds.length ≤ 999999)
    (c2 c3 c7 c8 c9 c14 c15 c16 c17 c18 c19 c20 c21 c22 c23 c24 c25 c26 c27 c28 c29 c30 c31 c32 c33 c34 c35 c36 c37 c38 c39 c40 c41 c42 c43 c44 c45 c46 c47 c48 c49 c50 c51 c52 c53 c54 c55 c56 c57 c58 c59 c60 c61 c62 c63 c64 c65 c66 c67 c68 c69 c70 c71 c72 c73 c74 c75 c76 c77 c78 c79 c80 c81 c82 c83 c84 c85 c86 c87 c88 c89 c90 c91 c92 c93 c94 c95 c96 c97 c98 c99 c100 c101 c102 c103 c104 c105 c106 c107 c108 c109 c110 c111 c112 c113 c114 c115 c116 c117 c118 c119 c120 c121 c122 c123 c124 c125 c126 c127 c128 c129 c130 c220 c221 : Value) (jx : (64 : Int) < (x.length : Int)) (hq : ∀ (tmps : Array Value) (w9 : World), tmps.getD 4 undef = .pointer (some ⟨H, 0, none⟩) → tmps.getD 5 undef = .pointer (some ⟨H + 1, 0, none⟩) → w9.heap[H]? = some (.cells #[.int .u8 3, .string ⟨#[]⟩, .slice ka ks.length kc, .slice da ds.length dc, .int .i64 hl0] 26) → w9.heap[H + 1]? = some (.cells #[.int .i64 2, .int .i64 n] 29) → w.grownBy w9 (some rb) → bodyPost Tryz.prog Tryz.f35 R .ret ⟨tmps, []⟩ w9) (u10 u11 u12 u13 u131 u132 u133 u134 u135 u136 u137 u138 u139 u140 u141 u142 u143 u144 u145 u146 u147 u148 u149 u150 u151 u152 u153 u154 u155 u156 u157 u158 u159 u160 u161 u162 u163 u164 u165 u166 u167 u168 u169 u170 u171 u172 u173 u174 u175 u176 u177 u178 u179 u180 u181 u182 u183 u184 u185 u186 u187 u188 u189 u190 u191 u192 u193 u194 u195 u196 u197 u198 u199 u200 u201 u202 u203 u204 u205 u206 u207 u208 u209 u210 u211 u212 u213 u214 u215 u216 u217 u218 u219 : Value) : Code.wp Tryz.prog kbody (Exit.then K (Exit.inBlock 3 (Exit.inBlock 0 (Exit.then K1 (bodyPost Tryz.prog Tryz.f35 R))))) ⟨#[.pointer (some ⟨rb, 0, none⟩), .int .i64 lv, c2, c3, .pointer (some ⟨H, 0, none⟩), .pointer (some ⟨H + 1, 0, none⟩), .pointer (some ⟨H + 1 + 1, 0, none⟩), c7, c8, c9, u10, u11, u12, u13, c14, c15, c16, c17, c18, c19, c20, c21, c22, c23, c24, c25, c26, c27, c28, c29, c30, c31, c32, c33, c34, c35, c36, c37, c38, c39, c40, c41, c42, c43, c44, c45, c46, c47, c48, c49, c50, c51, c52, c53, c54, c55, c56, c57, c58, c59, c60, c61, c62, c63, c64, c65, c66, c67, c68, c69, c70, c71, c72, c73, c74, c75, c76, c77, c78, c79, c80, c81, c82, c83, c84, c85, c86, c87, c88, c89, c90, c91, c92, c93, c94, c95, c96, c97, c98, c99, c100, c101, c102, c103, c104, c105, c106, c107, c108, c109, c110, c111, c112, c113, c114, c115, c116, c117, c118, c119, c120, c121, c122, c123, c124, c125, c126, c127, c128, c129, c130, u131, u132, u133, u134, u135, u136, u137, u138, u139, u140, u141, u142, u143, u144, u145, u146, u147, u148, u149, u150, u151, u152, u153, u154, u155, u156, u157, u158, u159, u160, u161, u162, u163, u164, u165, u166, u167, u168, u169, u170, u171, u172, u173, u174, u175, u176, u177, u178, u179, u180, u181, u182, u183, u184, u185, u186, u187, u188, u189, u190, u191, u192, u193, u194, u195, u196, u197, u198, u199, u200, u201, u202, u203, u204, u205, u206, u207, u208, u209, u210, u211, u212, u213, u214, u215, u216, u217, u218, u219, c220, c221], []⟩ wr := by
  have HVI := hide hvi
  have HLA := hide hla
  have HH := hide hvi.hh
  have hBH := hvi.bh
  have hrb := hvi.rpr.lt
  have hmx := hmx0
  have HQ := hide hq
  have hlw : IntKind.i64.wrap ((lv : Int) + 1) = (lv : Int) + 1 := IntWalk.i64_in _ (by omega)
  clear hvi hla hq
  conv => arg 2; whnf
  go_upto_region 27 with (go_at_call 73; refine (rkind_lit B rb all _ 4 _ (unhide HVI).rpr rfl).mono ?_; rintro e w' ⟨rfl, q, rfl⟩)
  obtain ⟨Y0, hY0⟩ : ∃ Y0, wr.drewN q = Y0 := ⟨_, rfl⟩
  have hvy0 := (unhide HVI).drewN q
  rw [hY0] at hvy0
  rw [hY0]
  obtain ⟨b1, o1, c1, k1, p1, hk1, hk2, hb1, hb2, cc0, cc1, cc2, cc3⟩ := hvy0.rpr.cons
  have y0 := two_cell p1
  have hki : (k1 : Int) < (all.length : Int) := by omega
  have hrl : rb < Y0.heap.size := (Array.getElem?_eq_some_iff.1 p1).1
  clear p1 hk2 hY0 HVI
  have hal : ∀ r o, r < Y0.heap.size → (Y0.alloc (.cells #[.int .u8 0, .string ⟨#[]⟩, .int .i64 0, .int .i64 0] 124)).cell? ⟨r, o, none⟩ = Y0.cell? ⟨r, o, none⟩ := fun r o h => cell_of_block (Below.heap_alloc _ _ _ h) o
  have y0a := (hal rb 0 hrl).trans y0.1.1
  have y1a := (hal rb 1 hrl).trans y0.2.1
  have cc0a := (hal _ _ hb1).trans cc0
  have cc1a := (hal _ _ hb1).trans cc1
  have cc2a := (hal _ _ hb1).trans cc2
  have cc3a := (hal _ _ hb1).trans cc3
  clear hal
  go_region
  obtain ⟨X, hX⟩ : ∃ X, (Y0.alloc (.cells #[.int .u8 4, .string ⟨x.toArray⟩, .int .i64 n, .int .i64 c] 124)).drew = X := ⟨_, rfl⟩
  have hvx := (hvy0.below ((Below.refl _ Y0).alloc (Nat.le_refl _) (.cells #[.int .u8 4, .string ⟨x.toArray⟩, .int .i64 n, .int .i64 c] 124))).drew
  have gT : X.heap[Y0.heap.size]? = some (.cells #[.int .u8 4, .string ⟨x.toArray⟩, .int .i64 n, .int .i64 c] 124) := by rw [← hX]; exact World.alloc_heap_new Y0 _
  rw [hX] at hvx
  rw [hX]
  obtain ⟨TB, hTB⟩ : ∃ TB, Y0.heap.size = TB := ⟨_, rfl⟩
  have hTB2 : H + 1 + 1 < TB := by have := hvy0.lt; omega
  have hTBl : TB < X.heap.size := by rw [← hTB]; exact (Array.getElem?_eq_some_iff.1 gT).1
  rw [hTB] at gT
  try rw [hTB]
  have x0 := four_cell gT
  clear hX hTB y0 cc0 cc1 cc2 cc3 y0a y1a cc0a cc1a cc2a cc3a hb1 hb2 hk1 hki hrl hvy0
  have hE := rfault_any B rb all _ 2 X.drew hvx.rpr.drew
  rw [unhide HLA, show P20.hereL last ((4, x, n, c) :: r) = n from rfl] at hE
  have HE := hide hE
  have mx := hvx.b2
  rw [show ((3 : Nat) : Int) = 3 from rfl] at mx
  have z0 := five_cell mx
  clear mx
  have hlx := hvx.lt
  clear hE
  go_wp2
  go_region_with_o (go_at_call 36; refine (unhide HE).mono ?_; rintro e' w5 ⟨rfl, hb5⟩; have hv5 := hvx.drew.below hb5; have r0 := five_cell hv5.b0; have t0 := two_cell hv5.b1; have m5 := hv5.b2; rw [show ((3 : Nat) : Int) = 3 from rfl] at m5; have z0 := five_cell m5; clear m5)
  all_goals go_wp2
  all_goals
    have hT := (two_b hv5.b0 hv5.b1 (.int .u8 3) (.string ⟨#[]⟩) (.slice ka ks.length kc) (.slice da ds.length dc) (.int .i64 hl0) (.int .i64 2) (.int .i64 n)).undrew
    exact unhide HQ _ _ rfl rfl hT.h0 hT.h1 (two_grown hT hv5.grow (by have := unhide HH; omega))
set_option maxRecDepth 100000 in
set_option maxHeartbeats 8000000 in
theorem kc_twice (last : Int) (lv : Nat) (w : World) (H B rb : Nat) (all : List Tk) (hl0 : Int) (ks : List (List UInt8)) (ds : List Nd) (ka da : Option Addr) (kc dc : Nat) (x : List UInt8) (n c : Int) (r : List Tk) (wr : World) {K K1 : Act → World → Prop} {R : Ending → World → Prop}
    (hvi : VI w H B rb all hl0 3 ks ds (.slice ka ks.length kc) (.slice da ds.length dc) ((4, x, n, c) :: r) wr) (hla : lastLn all = last) (jl : (lv : Int) ≤ 16) (hlk : ks.length ≤ 999999) (hld : ds.length ≤ 999999)
    (c2 c3 c7 c8 c9 c14 c15 c16 c17 c18 c19 c20 c21 c22 c23 c24 c25 c26 c27 c28 c29 c30 c31 c32 c33 c34 c35 c36 c37 c38 c39 c40 c41 c42 c43 c44 c45 c46 c47 c48 c49 c50 c51 c52 c53 c54 c55 c56 c57 c58 c59 c60 c61 c62 c63 c64 c65 c66 c67 c68 c69 c70 c71 c72 c73 c74 c75 c76 c77 c78 c79 c80 c81 c82 c83 c84 c85 c86 c87 c88 c89 c90 c91 c92 c93 c94 c95 c96 c97 c98 c99 c100 c101 c102 c103 c104 c105 c106 c107 c108 c109 c110 c111 c112 c113 c114 c115 c116 c117 c118 c119 c120 c121 c122 c123 c124 c125 c126 c127 c128 c129 c130 c220 c221 : Value) (jx : (x.length : Int) ≤ 64) (hm : x ∈ ks) (hq : ∀ (tmps : Array Value) (w9 : World), tmps.getD 4 undef = .pointer (some ⟨H, 0, none⟩) → tmps.getD 5 undef = .pointer (some ⟨H + 1, 0, none⟩) → w9.heap[H]? = some (.cells #[.int .u8 3, .string ⟨#[]⟩, .slice ka ks.length kc, .slice da ds.length dc, .int .i64 hl0] 26) → w9.heap[H + 1]? = some (.cells #[.int .i64 6, .int .i64 n] 29) → w.grownBy w9 (some rb) → bodyPost Tryz.prog Tryz.f35 R .ret ⟨tmps, []⟩ w9) (u10 u11 u12 u13 u131 u132 u133 u134 u135 u136 u137 u138 u139 u140 u141 u142 u143 u144 u145 u146 u147 u148 u149 u150 u151 u152 u153 u154 u155 u156 u157 u158 u159 u160 u161 u162 u163 u164 u165 u166 u167 u168 u169 u170 u171 u172 u173 u174 u175 u176 u177 u178 u179 u180 u181 u182 u183 u184 u185 u186 u187 u188 u189 u190 u191 u192 u193 u194 u195 u196 u197 u198 u199 u200 u201 u202 u203 u204 u205 u206 u207 u208 u209 u210 u211 u212 u213 u214 u215 u216 u217 u218 u219 : Value) : Code.wp Tryz.prog kbody (Exit.then K (Exit.inBlock 3 (Exit.inBlock 0 (Exit.then K1 (bodyPost Tryz.prog Tryz.f35 R))))) ⟨#[.pointer (some ⟨rb, 0, none⟩), .int .i64 lv, c2, c3, .pointer (some ⟨H, 0, none⟩), .pointer (some ⟨H + 1, 0, none⟩), .pointer (some ⟨H + 1 + 1, 0, none⟩), c7, c8, c9, u10, u11, u12, u13, c14, c15, c16, c17, c18, c19, c20, c21, c22, c23, c24, c25, c26, c27, c28, c29, c30, c31, c32, c33, c34, c35, c36, c37, c38, c39, c40, c41, c42, c43, c44, c45, c46, c47, c48, c49, c50, c51, c52, c53, c54, c55, c56, c57, c58, c59, c60, c61, c62, c63, c64, c65, c66, c67, c68, c69, c70, c71, c72, c73, c74, c75, c76, c77, c78, c79, c80, c81, c82, c83, c84, c85, c86, c87, c88, c89, c90, c91, c92, c93, c94, c95, c96, c97, c98, c99, c100, c101, c102, c103, c104, c105, c106, c107, c108, c109, c110, c111, c112, c113, c114, c115, c116, c117, c118, c119, c120, c121, c122, c123, c124, c125, c126, c127, c128, c129, c130, u131, u132, u133, u134, u135, u136, u137, u138, u139, u140, u141, u142, u143, u144, u145, u146, u147, u148, u149, u150, u151, u152, u153, u154, u155, u156, u157, u158, u159, u160, u161, u162, u163, u164, u165, u166, u167, u168, u169, u170, u171, u172, u173, u174, u175, u176, u177, u178, u179, u180, u181, u182, u183, u184, u185, u186, u187, u188, u189, u190, u191, u192, u193, u194, u195, u196, u197, u198, u199, u200, u201, u202, u203, u204, u205, u206, u207, u208, u209, u210, u211, u212, u213, u214, u215, u216, u217, u218, u219, c220, c221], []⟩ wr := by
  have HVI := hide hvi
  have HLA := hide hla
  have HH := hide hvi.hh
  have hBH := hvi.bh
  have hrb := hvi.rpr.lt
  have hmx := hmx0
  have HQ := hide hq
  have hlw : IntKind.i64.wrap ((lv : Int) + 1) = (lv : Int) + 1 := IntWalk.i64_in _ (by omega)
  clear hvi hla hq
  conv => arg 2; whnf
  go_upto_region 27 with (go_at_call 73; refine (rkind_lit B rb all _ 4 _ (unhide HVI).rpr rfl).mono ?_; rintro e w' ⟨rfl, q, rfl⟩)
  obtain ⟨Y0, hY0⟩ : ∃ Y0, wr.drewN q = Y0 := ⟨_, rfl⟩
  have hvy0 := (unhide HVI).drewN q
  rw [hY0] at hvy0
  rw [hY0]
  obtain ⟨b1, o1, c1, k1, p1, hk1, hk2, hb1, hb2, cc0, cc1, cc2, cc3⟩ := hvy0.rpr.cons
  have y0 := two_cell p1
  have hki : (k1 : Int) < (all.length : Int) := by omega
  have hrl : rb < Y0.heap.size := (Array.getElem?_eq_some_iff.1 p1).1
  clear p1 hk2 hY0 HVI
  have hal : ∀ r o, r < Y0.heap.size → (Y0.alloc (.cells #[.int .u8 0, .string ⟨#[]⟩, .int .i64 0, .int .i64 0] 124)).cell? ⟨r, o, none⟩ = Y0.cell? ⟨r, o, none⟩ := fun r o h => cell_of_block (Below.heap_alloc _ _ _ h) o
  have y0a := (hal rb 0 hrl).trans y0.1.1
  have y1a := (hal rb 1 hrl).trans y0.2.1
  have cc0a := (hal _ _ hb1).trans cc0
  have cc1a := (hal _ _ hb1).trans cc1
  have cc2a := (hal _ _ hb1).trans cc2
  have cc3a := (hal _ _ hb1).trans cc3
  clear hal
  go_region
  obtain ⟨X, hX⟩ : ∃ X, (Y0.alloc (.cells #[.int .u8 4, .string ⟨x.toArray⟩, .int .i64 n, .int .i64 c] 124)).drew = X := ⟨_, rfl⟩
  have hvx := (hvy0.below ((Below.refl _ Y0).alloc (Nat.le_refl _) (.cells #[.int .u8 4, .string ⟨x.toArray⟩, .int .i64 n, .int .i64 c] 124))).drew
  have gT : X.heap[Y0.heap.size]? = some (.cells #[.int .u8 4, .string ⟨x.toArray⟩, .int .i64 n, .int .i64 c] 124) := by rw [← hX]; exact World.alloc_heap_new Y0 _
  rw [hX] at hvx
  rw [hX]
  obtain ⟨TB, hTB⟩ : ∃ TB, Y0.heap.size = TB := ⟨_, rfl⟩
  have hTB2 : H + 1 + 1 < TB := by have := hvy0.lt; omega
  have hTBl : TB < X.heap.size := by rw [← hTB]; exact (Array.getElem?_eq_some_iff.1 gT).1
  rw [hTB] at gT
  try rw [hTB]
  have x0 := four_cell gT
  clear hX hTB y0 cc0 cc1 cc2 cc3 y0a y1a cc0a cc1a cc2a cc3a hb1 hb2 hk1 hki hrl hvy0
  have hE := rfault_any B rb all _ 6 X.drew hvx.rpr.drew
  rw [unhide HLA, show P20.hereL last ((4, x, n, c) :: r) = n from rfl] at hE
  have HE := hide hE
  have mx := hvx.b2
  rw [show ((3 : Nat) : Int) = 3 from rfl] at mx
  have z0 := five_cell mx
  clear mx
  have hlx := hvx.lt
  clear hE
  obtain ⟨a3, c3, hv3, _, _, hin3, _⟩ := hvx.own.str.slice
  injection hv3 with e1 _ e2
  subst e1
  subst e2
  have hha := rhas_any ka kc ks x X hin3 (by omega)
  rw [decide_eq_true hm] at hha
  have HHA := hide hha
  clear hha hin3 hm
  go_wp2_with (go_at_call 75; refine (unhide HHA).mono ?_; rintro e w' ⟨rfl, rfl⟩)
  go_region_with_o (go_at_call 36; refine (unhide HE).mono ?_; rintro e' w5 ⟨rfl, hb5⟩; have hv5 := hvx.drew.below hb5; have r0 := five_cell hv5.b0; have t0 := two_cell hv5.b1; have m5 := hv5.b2; rw [show ((3 : Nat) : Int) = 3 from rfl] at m5; have z0 := five_cell m5; clear m5)
  all_goals go_wp2
  all_goals
    have hT := (two_b hv5.b0 hv5.b1 (.int .u8 3) (.string ⟨#[]⟩) (.slice ka ks.length kc) (.slice da ds.length dc) (.int .i64 hl0) (.int .i64 6) (.int .i64 n)).undrew
    exact unhide HQ _ _ rfl rfl hT.h0 hT.h1 (two_grown hT hv5.grow (by have := unhide HH; omega))
end Go.Proofs.YtnjokdbblmlhhaaGreatDoor
