/- The reference's Value, keys: what is no value. -/
import Derived.Test.YtnjokdbblmlhhaaGreatDoorWR20k0
namespace Go.Proofs.YtnjokdbblmlhhaaGreatDoor
set_option linter.unusedVariables false
set_option linter.unusedSimpArgs false
open Go.RowKit
attribute [local go_sem] tokField1 tokField2
set_option maxRecDepth 100000 in
set_option maxHeartbeats 8000000 in
theorem kc_open (last : Int) (lv : Nat) (w : World) (H B rb : Nat) (all : List Tk) (hl0 : Int) (ks : List (List UInt8)) (ds : List Nd) (ka da : Option Addr) (kc dc : Nat) (x : List UInt8) (n c : Int) (r : List Tk) (wr : World) {K K1 : Act → World → Prop} {R : Ending → World → Prop}
    (hvi : VI w H B rb all hl0 3 ks ds (.slice ka ks.length kc) (.slice da ds.length dc) ((4, x, n, c) :: r) wr) (hla : lastLn all = last) (jl : (lv : Int) ≤ 16) (hlk : ks.length ≤ 999999) (hld : ds.length ≤ 999999)
    (c2 c3 c7 c8 c9 c14 c15 c16 c17 c18 c19 c20 c21 c22 c23 c24 c25 c26 c27 c28 c29 c30 c31 c32 c33 c34 c35 c36 c37 c38 c39 c40 c41 c42 c43 c44 c45 c46 c47 c48 c49 c50 c51 c52 c53 c54 c55 c56 c57 c58 c59 c60 c61 c62 c63 c64 c65 c66 c67 c68 c69 c70 c71 c72 c73 c74 c75 c76 c77 c78 c79 c80 c81 c82 c83 c84 c85 c86 c87 c88 c89 c90 c91 c92 c93 c94 c95 c96 c97 c98 c99 c100 c101 c102 c103 c104 c105 c106 c107 c108 c109 c110 c111 c112 c113 c114 c115 c116 c117 c118 c119 c120 c121 c122 c123 c124 c125 c126 c127 c128 c129 c130 c220 c221 : Value) (jx : (x.length : Int) ≤ 64) (hm : x ∉ ks) (h5 : P20.kindOf r < 5) (g : Nat) (hV : RWiC last g) (o2 : P20.Out (List (List UInt8) × List P20.T))
    (hres : (∃ d r', P20.Wi last g (lv + 1) n r (.ok d r') ∧ P20.Ky last g (lv + 1) (ks ++ [x]) (bareL ds ++ [d]) r' o2) ∨ (∃ e l, P20.Wi last g (lv + 1) n r (.bad e l) ∧ o2 = .bad e l))
    (hq : ∀ (u10 u11 u12 u13 u131 u132 u133 u134 u135 u136 u137 u138 u139 u140 u141 u142 u143 u144 u145 u146 u147 u148 u149 u150 u151 u152 u153 u154 u155 u156 u157 u158 u159 u160 u161 u162 u163 u164 u165 u166 u167 u168 u169 u170 u171 u172 u173 u174 u175 u176 u177 u178 u179 u180 u181 u182 u183 u184 u185 u186 u187 u188 u189 u190 u191 u192 u193 u194 u195 u196 u197 u198 u199 u200 u201 u202 u203 u204 u205 u206 u207 u208 u209 u210 u211 u212 u213 u214 u215 u216 u217 u218 u219 : Value) (nd : Nd) (kv' dv' : Value) (r' : List Tk) (w9 : World), P20.Ky last g (lv + 1) (ks ++ [x]) (bareL (ds ++ [nd])) r' o2 → VI w H B rb all hl0 3 (ks ++ [x]) (ds ++ [nd]) kv' dv' r' w9 → r'.length < (r).length → K ⟨#[.pointer (some ⟨rb, 0, none⟩), .int .i64 lv, c2, c3, .pointer (some ⟨H, 0, none⟩), .pointer (some ⟨H + 1, 0, none⟩), .pointer (some ⟨H + 1 + 1, 0, none⟩), c7, c8, c9, u10, u11, u12, u13, c14, c15, c16, c17, c18, c19, c20, c21, c22, c23, c24, c25, c26, c27, c28, c29, c30, c31, c32, c33, c34, c35, c36, c37, c38, c39, c40, c41, c42, c43, c44, c45, c46, c47, c48, c49, c50, c51, c52, c53, c54, c55, c56, c57, c58, c59, c60, c61, c62, c63, c64, c65, c66, c67, c68, c69, c70, c71, c72, c73, c74, c75, c76, c77, c78, c79, c80, c81, c82, c83, c84, c85, c86, c87, c88, c89, c90, c91, c92, c93, c94, c95, c96, c97, c98, c99, c100, c101, c102, c103, c104, c105, c106, c107, c108, c109, c110, c111, c112, c113, c114, c115, c116, c117, c118, c119, c120, c121, c122, c123, c124, c125, c126, c127, c128, c129, c130, u131, u132, u133, u134, u135, u136, u137, u138, u139, u140, u141, u142, u143, u144, u145, u146, u147, u148, u149, u150, u151, u152, u153, u154, u155, u156, u157, u158, u159, u160, u161, u162, u163, u164, u165, u166, u167, u168, u169, u170, u171, u172, u173, u174, u175, u176, u177, u178, u179, u180, u181, u182, u183, u184, u185, u186, u187, u188, u189, u190, u191, u192, u193, u194, u195, u196, u197, u198, u199, u200, u201, u202, u203, u204, u205, u206, u207, u208, u209, u210, u211, u212, u213, u214, u215, u216, u217, u218, u219, c220, c221], []⟩ w9)
    (hqb : ∀ (e l : Int), o2 = .bad e l → ∀ (tmps : Array Value) (w9 : World), tmps.getD 4 undef = .pointer (some ⟨H, 0, none⟩) → tmps.getD 5 undef = .pointer (some ⟨H + 1, 0, none⟩) → w9.heap[H]? = some (.cells #[.int .u8 3, .string ⟨#[]⟩, .slice ka ks.length kc, .slice da ds.length dc, .int .i64 hl0] 26) → w9.heap[H + 1]? = some (.cells #[.int .i64 e, .int .i64 l] 29) → w.grownBy w9 (some rb) → bodyPost Tryz.prog Tryz.f35 R .ret ⟨tmps, []⟩ w9) (u10 u11 u12 u13 u131 u132 u133 u134 u135 u136 u137 u138 u139 u140 u141 u142 u143 u144 u145 u146 u147 u148 u149 u150 u151 u152 u153 u154 u155 u156 u157 u158 u159 u160 u161 u162 u163 u164 u165 u166 u167 u168 u169 u170 u171 u172 u173 u174 u175 u176 u177 u178 u179 u180 u181 u182 u183 u184 u185 u186 u187 u188 u189 u190 u191 u192 u193 u194 u195 u196 u197 u198 u199 u200 u201 u202 u203 u204 u205 u206 u207 u208 u209 u210 u211 u212 u213 u214 u215 u216 u217 u218 u219 : Value) : Code.wp Tryz.prog kbody (Exit.then K (Exit.inBlock 3 (Exit.inBlock 0 (Exit.then K1 (bodyPost Tryz.prog Tryz.f35 R))))) ⟨#[.pointer (some ⟨rb, 0, none⟩), .int .i64 lv, c2, c3, .pointer (some ⟨H, 0, none⟩), .pointer (some ⟨H + 1, 0, none⟩), .pointer (some ⟨H + 1 + 1, 0, none⟩), c7, c8, c9, u10, u11, u12, u13, c14, c15, c16, c17, c18, c19, c20, c21, c22, c23, c24, c25, c26, c27, c28, c29, c30, c31, c32, c33, c34, c35, c36, c37, c38, c39, c40, c41, c42, c43, c44, c45, c46, c47, c48, c49, c50, c51, c52, c53, c54, c55, c56, c57, c58, c59, c60, c61, c62, c63, c64, c65, c66, c67, c68, c69, c70, c71, c72, c73, c74, c75, c76, c77, c78, c79, c80, c81, c82, c83, c84, c85, c86, c87, c88, c89, c90, c91, c92, c93, c94, c95, c96, c97, c98, c99, c100, c101, c102, c103, c104, c105, c106, c107, c108, c109, c110, c111, c112, c113, c114, c115, c116, c117, c118, c119, c120, c121, c122, c123, c124, c125, c126, c127, c128, c129, c130, u131, u132, u133, u134, u135, u136, u137, u138, u139, u140, u141, u142, u143, u144, u145, u146, u147, u148, u149, u150, u151, u152, u153, u154, u155, u156, u157, u158, u159, u160, u161, u162, u163, u164, u165, u166, u167, u168, u169, u170, u171, u172, u173, u174, u175, u176, u177, u178, u179, u180, u181, u182, u183, u184, u185, u186, u187, u188, u189, u190, u191, u192, u193, u194, u195, u196, u197, u198, u199, u200, u201, u202, u203, u204, u205, u206, u207, u208, u209, u210, u211, u212, u213, u214, u215, u216, u217, u218, u219, c220, c221], []⟩ wr := by
  have HVI := hide hvi
  have HLA := hide hla
  have HH := hide hvi.hh
  have hBH := hvi.bh
  have hrb := hvi.rpr.lt
  have hmx := hmx0
  have HQ := hide hq
  have hlw : IntKind.i64.wrap ((lv : Int) + 1) = (lv : Int) + 1 := IntWalk.i64_in _ (by omega)
  have HQB := hide hqb
  have HVG := hide hV
  have HRES := hide hres
  clear hvi hla hq hqb hV hres
  conv => arg 2; whnf
  go_upto_region 27 with (go_at_call 73; refine (rkind_lit B rb all _ 4 _ (unhide HVI).rpr rfl).mono ?_; rintro e w' ⟨rfl, q, rfl⟩)
  obtain ⟨Y0, hY0⟩ : ∃ Y0, wr.drewN q = Y0 := ⟨_, rfl⟩
  have hvy0 := (unhide HVI).drewN q
  rw [hY0] at hvy0
  rw [hY0]
  obtain ⟨b1, o1, c1, k1, p1, hk1, hk2, hb1, hb2, cc0, cc1, cc2, cc3⟩ := hvy0.rpr.cons
  have y0 := two_cell p1
  have hki : (k1 : Int) < (all.length : Int) := by omega
  have hrl : rb < Y0.heap.size := (Array.getElem?_eq_some_iff.1 p1).1
  clear hk2 hY0 HVI
  have hal : ∀ r o, r < Y0.heap.size → (Y0.alloc (.cells #[.int .u8 0, .string ⟨#[]⟩, .int .i64 0, .int .i64 0] 124)).cell? ⟨r, o, none⟩ = Y0.cell? ⟨r, o, none⟩ := fun r o h => cell_of_block (Below.heap_alloc _ _ _ h) o
  have y0a := (hal rb 0 hrl).trans y0.1.1
  have y1a := (hal rb 1 hrl).trans y0.2.1
  have cc0a := (hal _ _ hb1).trans cc0
  have cc1a := (hal _ _ hb1).trans cc1
  have cc2a := (hal _ _ hb1).trans cc2
  have cc3a := (hal _ _ hb1).trans cc3
  clear hal
  go_region
  obtain ⟨X, hX⟩ : ∃ X, (Y0.alloc (.cells #[.int .u8 4, .string ⟨x.toArray⟩, .int .i64 n, .int .i64 c] 124)).drew = X := ⟨_, rfl⟩
  have hvx := (hvy0.below ((Below.refl _ Y0).alloc (Nat.le_refl _) (.cells #[.int .u8 4, .string ⟨x.toArray⟩, .int .i64 n, .int .i64 c] 124))).drew
  have gT : X.heap[Y0.heap.size]? = some (.cells #[.int .u8 4, .string ⟨x.toArray⟩, .int .i64 n, .int .i64 c] 124) := by rw [← hX]; exact World.alloc_heap_new Y0 _
  rw [hX] at hvx
  rw [hX]
  obtain ⟨TB, hTB⟩ : ∃ TB, Y0.heap.size = TB := ⟨_, rfl⟩
  have hTB2 : H + 1 + 1 < TB := by have := hvy0.lt; omega
  have hTBl : TB < X.heap.size := by rw [← hTB]; exact (Array.getElem?_eq_some_iff.1 gT).1
  rw [hTB] at gT
  try rw [hTB]
  have x0 := four_cell gT
  clear hX hTB y0 cc0 cc1 cc2 cc3 y0a y1a cc0a cc1a cc2a cc3a hb1 hb2 hk1 hki hrl hvy0
  obtain ⟨a3, c3, hv3, _, _, hin3, _⟩ := hvx.own.str.slice
  injection hv3 with e1 _ e2
  subst e1
  subst e2
  have hha := rhas_any ka kc ks x X hin3 (by omega)
  rw [decide_eq_false hm] at hha
  have HHA := hide hha
  have HM := hide hm
  clear hha hin3 hm
  have z0 := five_cell hvx.b2
  obtain ⟨a5, c5, k5, p5, hk5, hvy⟩ := hvx.step
  have y0 := two_cell p5
  go_upto_region 33 with (go_at_call 75; refine (unhide HHA).mono ?_; rintro e w' ⟨rfl, rfl⟩)
  obtain ⟨Y, hY⟩ : ∃ Y, X.setCell ⟨rb, 1, none⟩ (.int .i64 ((k5 : Int) + 1)) = Y := ⟨_, rfl⟩
  have hTY := (show Y.heap[TB]? = X.heap[TB]? by rw [← hY]; exact Below.heap_setCell _ _ _ _ (by show TB ≠ rb; omega)).trans gT
  have hTYl : TB < Y.heap.size := (Array.getElem?_eq_some_iff.1 hTY).1
  rw [hY] at hvy
  rw [hY]
  have hly := hvy.lt
  obtain ⟨W3, hW3, hb3, d0, d1, hs3⟩ := two_pair Y (.cells #[.int .u8 0, .string ⟨#[]⟩, .slice none 0 0, .slice none 0 0, .int .i64 0] 26) (.cells #[.int .i64 0, .int .i64 0] 29)
  have hv3 := hvy.below hb3
  have hT3 := (hb3.block TB hTYl).trans hTY
  clear hY y0 p5 hk5 z0 x0 hvx gT hTBl HHA
  go_upto_region 35 with fail
  obtain ⟨D, hD⟩ : ∃ D, Y.heap.size = D := ⟨_, rfl⟩
  rw [hD] at d0 d1 hs3
  try rw [hD]
  try rw [hW3]
  obtain ⟨kr, hkr⟩ : ∃ kr : Int, ((P20.kindOf r : Nat) : Int) = kr := ⟨_, rfl⟩
  go_upto_region 36 with (go_at_call 73; refine (rkind_lit B rb all r kr _ hv3.rpr hkr).mono ?_; rintro e w' ⟨rfl, q2, rfl⟩)
  obtain ⟨Z, hZ⟩ : ∃ Z, W3.drewN q2 = Z := ⟨_, rfl⟩
  have hvz := hv3.drewN q2
  have m0 := (show Z.heap[D]? = W3.heap[D]? by rw [← hZ]; rfl).trans d0
  have m1 := (show Z.heap[D + 1]? = W3.heap[D + 1]? by rw [← hZ]; rfl).trans d1
  have hTZ := (show Z.heap[TB]? = W3.heap[TB]? by rw [← hZ]; rfl).trans hT3
  have hsz : Z.heap.size = D + 1 + 1 := by rw [← hZ]; exact hs3
  have hyz : Y.grownBy Z (some rb) := by rw [← hZ]; exact grown_trans1 (grown_of_below hb3 _) (grown_drewN _ q2 _)
  rw [hZ] at hvz
  rw [hZ]
  have hTD : TB < D := by omega
  have hHD : H + 1 + 1 < D := by omega
  clear hZ hW3 hb3 d0 d1 hs3 hv3 hT3
  have HTZ := hide hTZ
  have HD0 := hide m0
  have HD1 := hide m1
  have HVY := hide hvy
  have HYZ := hide hyz
  have HTY := hide hTY
  have hYD : Y.heap.size = D := hD
  clear hTZ m0 m1 hvy hyz hTY hD
  have jg : kr < 5 := by omega
  have jd : decide (5 ≤ kr) = false := by simpa using jg
  have HVZ := hide hvz
  clear h5 hkr hvz
  go_quiet (fail)
  obtain ⟨Z1, hZ1⟩ : ∃ Z1, Z.drewN nq = Z1 := ⟨_, rfl⟩
  have hvz1 := (unhide HVZ).drewN nq
  have hzz : Z.grownBy Z1 (some rb) := by rw [← hZ1]; exact grown_drewN _ nq _
  have hT1 := (show Z1.heap[TB]? = Z.heap[TB]? by rw [← hZ1]; rfl).trans (unhide HTZ)
  have m0 := (show Z1.heap[D]? = Z.heap[D]? by rw [← hZ1]; rfl).trans (unhide HD0)
  have m1 := (show Z1.heap[D + 1]? = Z.heap[D + 1]? by rw [← hZ1]; rfl).trans (unhide HD1)
  have hsz1 : Z1.heap.size = D + 1 + 1 := by rw [← hZ1]; exact hsz
  have hyz1 := grown_trans1 (unhide HYZ) hzz
  rw [hZ1] at hvz1
  rw [hZ1]
  clear hZ1 HTZ HD0 HD1 HYZ hzz hsz HVZ
  have hvz := hvz1
  have hsz := hsz1
  have HTZ := hide hT1
  have HD0 := hide m0
  have HD1 := hide m1
  have HYZ := hide hyz1
  clear hvz1 hsz1 hT1 m0 m1 hyz1
  rcases unhide HRES with ⟨d, r', hv, hs2⟩ | ⟨e, l, hv, rfl⟩
  · have hlr := (P20.less last g).2.1 _ _ _ _ _ hv
    have HLR := hide hlr
    have HSS := hide hs2
    clear hlr hs2
    have hcl := unhide HVG (lv + 1) n _ B rb all _ Z1 hvz.rpr (by omega) (unhide HLA) (by omega) hv
    rw [show (((lv + 1 : Nat)) : Int) = (lv : Int) + 1 from by omega] at hcl
    have HCL := hide hcl
    clear hcl hv
    have x0 := four_cell (unhide HTZ)
    go_upto_region 39 with (go_at_call 74; refine (unhide HCL).mono ?_; rintro e' w2 ⟨k, t, ka2, kc2, ks2, da2, dc2, es, l, rfl, HNW⟩; have d0 := ((unhide HNW).2.2.2.2.block D (by omega) (fun e => by injection e; omega)).trans (unhide HD0); have d1 := ((unhide HNW).2.2.2.2.block (D + 1) (by omega) (fun e => by injection e; omega)).trans (unhide HD1); have p0 := five_cell d0; have p5 := two_cell d1; have HD2 := hide d0; have HD3 := hide d1; clear d0 d1)
    obtain ⟨W6, hW6⟩ : ∃ W6, (((((((w2.setCell ⟨D, 0, none⟩ (.int .u8 k)).setCell ⟨D, 1, none⟩ (.string ⟨t.toArray⟩)).setCell ⟨D, 2, none⟩ (.slice ka2 ks2.length kc2)).setCell ⟨D, 3, none⟩ (.slice da2 es.length dc2)).setCell ⟨D, 4, none⟩ (.int .i64 l)).setCell ⟨D + 1, 0, none⟩ (.int .i64 0)).setCell ⟨D + 1, 1, none⟩ (.int .i64 0)) = W6 := ⟨_, rfl⟩
    have hT := (two_b (unhide HD2) (unhide HD3) (.int .u8 k) (.string ⟨t.toArray⟩) (.slice ka2 ks2.length kc2) (.slice da2 es.length dc2) (.int .i64 l) (.int .i64 0) (.int .i64 0)).undrew
    rw [hW6] at hT
    rw [hW6]
    clear hW6 HD2 HD3 p0 p5
    obtain ⟨hbare, hin0, hnew0, hR6, hg6⟩ := unhide HNW
    have hN6 : RNdOk Y B rb all r' d (.mk k t ka2 kc2 ks2 da2 dc2 es l) W6 := two_nd hT hbare hin0 (fun g hg => by have := hnew0 g hg; omega) hR6 (grown_trans1 (unhide HYZ) hg6) (by omega) (by omega)
    obtain ⟨_, hin, hnew, hR7, hgY⟩ := hN6
    have hv6 := (unhide HVY).old hgY hR7
    have m6 := (hgY.block TB (by omega) (fun e => by injection e; omega)).trans (unhide HTY)
    have x0 := four_cell m6
    have z0 := five_cell hv6.b2
    have y0 := two_cell hT.h1
    have h6l : D + 1 < W6.heap.size := (Array.getElem?_eq_some_iff.1 hT.h1).1
    have HBA := hide hbare
    have hsk : ∀ g, (Nd.mk k t ka2 kc2 ks2 da2 dc2 es l).blk g → (Value.slice ka ks.length kc).ownBlock ≠ some g := fun g hg e => by have := hnew g hg; have := (own_block_lt (unhide HVY).own.str.own g e).2; omega
    have hsd : ∀ g, (Nd.mk k t ka2 kc2 ks2 da2 dc2 es l).blk g → (Value.slice da ds.length dc).ownBlock ≠ some g := fun g hg e => by have := hnew g hg; have := (own_block_lt (unhide HVY).own.kids.own g e).2; omega
    have hkD : (Value.slice ka ks.length kc).ownBlock ≠ some D := fun e => by have := (own_block_lt (unhide HVY).own.str.own D e).2; omega
    have hlk6 : ks.length + 1 ≤ 1000000 := by have := hlk; omega
    have HT0 := hide hT.h0
    have HIN := hide hin
    have HNEW := hide hnew
    have HSK := hide hsk
    have HSD := hide hsd
    clear hbare hin0 hnew0 hR6 hg6 hT HNW hgY hR7 m6 hin hnew hsk hsd HCL HYZ
    go_upto_region 42 with (at_builtin; refine wpList_appStr2 (v := .slice ka ks.length kc) (B := H + 1 + 1 + 1) rfl _ _ rfl rfl hv6.own.str x rfl (by omega) (by omega) ?_; intro v8 w8 hS8 hg8 hat8; obtain ⟨ka8, kc8, he8, _⟩ := hS8.slice; rw [List.length_append, List.length_singleton] at he8; subst he8; obtain ⟨e8, hv8⟩ := hv6.key hS8 hg8 hat8; have j0 := five_cell e8)
    obtain ⟨W8, hW8⟩ : ∃ W8, w8.setCell ⟨H + 1 + 1, 2, none⟩ (.slice ka8 (ks.length + 1) kc8) = W8 := ⟨_, rfl⟩
    have hD8 := (show W8.heap[D]? = w8.heap[D]? by rw [← hW8]; exact Below.heap_setCell _ _ _ _ (by show D ≠ H + 1 + 1; omega)).trans ((hg8.block D (by omega) (fun e => hkD e.symm)).trans (unhide HT0))
    have hin8 : (Nd.mk k t ka2 kc2 ks2 da2 dc2 es l).In W8 := by rw [← hW8]; exact ((unhide HIN).grown hg8 (fun g e hb => unhide HSK g hb e)).setCell (fun hb => by have := unhide HNEW _ hb; omega)
    have hsk8 : ∀ g, (Nd.mk k t ka2 kc2 ks2 da2 dc2 es l).blk g → (Value.slice ka8 (ks.length + 1) kc8).ownBlock ≠ some g := fun g hb e => by
      rcases hat8 with h9 | ⟨g9, h9, h10⟩
      · exact unhide HSK g hb (h9 ▸ e)
      · rw [e] at h9; injection h9 with h9; have := (unhide HIN).lt hb; omega
    rw [hW8] at hv8
    rw [hW8]
    have hnew8 : ∀ g, (Nd.mk k t ka2 kc2 ks2 da2 dc2 es l).blk g → H + 1 + 1 + 1 ≤ g := fun g hb => by have := unhide HNEW g hb; omega
    have hl8 := hv8.lt
    clear hW8 hS8 hg8 hat8 e8 hv6 x0 y0 z0 j0
    have z0 := five_cell hv8.b2
    have y0 := five_cell hD8
    go_wp2_with (at_builtin; refine wpList_appNode (v := .slice da ds.length dc) (B := H + 1 + 1 + 1) (nd := .mk k t ka2 kc2 ks2 da2 dc2 es l) rfl _ _ rfl rfl hv8.own.kids rfl hin8 hnew8 (unhide HSD) rfl (by omega) (by omega) ?_; intro v9 w9 hK9 hg9 hat9; obtain ⟨da9, dc9, he9, _⟩ := hK9.slice; rw [List.length_append, List.length_singleton] at he9; subst he9; obtain ⟨e9, hv9⟩ := hv8.kid hK9 hg9 hat9 hsk8; have j0 := five_cell e9)
    exact unhide HQ _ _ _ _ _ _ _ _ _ _ _ _ _ _ _ _ _ _ _ _ _ _ _ _ _ _ _ _ _ _ _ _ _ _ _ _ _ _ _ _ _ _ _ _ _ _ _ _ _ _ _ _ _ _ _ _ _ _ _ _ _ _ _ _ _ _ _ _ _ _ _ _ _ _ _ _ _ _ _ _ _ _ _ _ _ _ _ _ _ _ _ _ _ _ _ _ r' _ (by rw [bareL_append]; simp only [bareL]; rw [unhide HBA]; exact unhide HSS) hv9 (unhide HLR)
  · have he0 : (e != 0) = true := by have := (P20.bad_ne last _).2.1 _ _ _ _ _ hv; simpa using this
    have hcl := unhide HVG (lv + 1) n _ B rb all _ Z1 hvz.rpr (by omega) (unhide HLA) (by omega) hv
    rw [show (((lv + 1 : Nat)) : Int) = (lv : Int) + 1 from by omega] at hcl
    have HCL := hide hcl
    clear hcl hv
    have x0 := four_cell (unhide HTZ)
    go_upto_region 39 with (go_at_call 74; refine (unhide HCL).mono ?_; rintro e' w2 ⟨k, t, ka2, kn2, kc2, da2, dn2, dc2, l2, rfl, HNW⟩; have d0 := ((unhide HNW).block D (by omega) (fun e => by injection e; omega)).trans (unhide HD0); have d1 := ((unhide HNW).block (D + 1) (by omega) (fun e => by injection e; omega)).trans (unhide HD1); have p0 := five_cell d0; have p5 := two_cell d1; have HD2 := hide d0; have HD3 := hide d1; clear d0 d1)
    obtain ⟨W6, hW6⟩ : ∃ W6, (((((((w2.setCell ⟨D, 0, none⟩ (.int .u8 k)).setCell ⟨D, 1, none⟩ (.string ⟨t.toArray⟩)).setCell ⟨D, 2, none⟩ (.slice ka2 kn2 kc2)).setCell ⟨D, 3, none⟩ (.slice da2 dn2 dc2)).setCell ⟨D, 4, none⟩ (.int .i64 l2)).setCell ⟨D + 1, 0, none⟩ (.int .i64 e)).setCell ⟨D + 1, 1, none⟩ (.int .i64 l)) = W6 := ⟨_, rfl⟩
    have hT := (two_b (unhide HD2) (unhide HD3) (.int .u8 k) (.string ⟨t.toArray⟩) (.slice ka2 kn2 kc2) (.slice da2 dn2 dc2) (.int .i64 l2) (.int .i64 e) (.int .i64 l)).undrew
    rw [hW6] at hT
    rw [hW6]
    clear hW6 HD2 HD3 p0 p5
    have hgY := two_grown (w := Y) hT (grown_trans1 (unhide HYZ) (unhide HNW)) (by omega)
    obtain ⟨hgw, q0, q1, q2⟩ := (unhide HVY).rest hgY
    have z0 := five_cell q2
    have y0 := two_cell hT.h1
    have r0 := five_cell q0
    have t0 := two_cell q1
    have HQ0 := hide q0
    have HQ1 := hide q1
    clear hT HNW hgY HCL HYZ
    go_wp2
    go_region_with_o (fail)
    all_goals go_wp2
    all_goals
      have hT := (two_b (unhide HQ0) (unhide HQ1) (.int .u8 3) (.string ⟨#[]⟩) (.slice ka ks.length kc) (.slice da ds.length dc) (.int .i64 hl0) (.int .i64 e) (.int .i64 l))
      exact unhide HQB _ _ rfl _ _ rfl rfl hT.h0 hT.h1 (two_grown hT hgw (by have := unhide HH; omega))
end Go.Proofs.YtnjokdbblmlhhaaGreatDoor
