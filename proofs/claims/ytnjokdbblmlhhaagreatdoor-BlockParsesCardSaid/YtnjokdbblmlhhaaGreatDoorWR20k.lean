/- The reference's parser of tokens: Value. -/
import Derived.Test.YtnjokdbblmlhhaaGreatDoorWR20k1
import Derived.Test.YtnjokdbblmlhhaaGreatDoorWR20k2
import Derived.Test.YtnjokdbblmlhhaaGreatDoorWR20k3
import Derived.Test.YtnjokdbblmlhhaaGreatDoorWR20k4
namespace Go.Proofs.YtnjokdbblmlhhaaGreatDoor
set_option linter.unusedVariables false
set_option linter.unusedSimpArgs false
open Go.RowKit
attribute [local go_sem] tokField1 tokField2
theorem RPr.k8' {W : World} {B rb : Nat} {all ts : List Tk} (h : RPr W B rb all ts) : ∀ t ∈ ts, t.1 < 8 ∧ t.2.1.length ≤ maxLen := by
  obtain ⟨⟨a, c, k, g, hi, h1, h2, h3, h4, h5, h6⟩, hlt, hne, k8, hl⟩ := h
  intro t ht
  exact k8 t (List.mem_of_mem_drop (i := k) (by rw [h3]; exact ht))
set_option maxRecDepth 100000 in
set_option maxHeartbeats 8000000 in
theorem rvalue_keys (last : Int) (f : Nat) (hV : ∀ g, g ≤ f → RValC last g) (hWi : ∀ g, g ≤ f → RWiC last g) (lv : Nat) (ts : List Tk) (B rb : Nat) (all : List Tk) (o : P20.Out P20.T) (w : World) (h : RPr w B rb all ts) (hB : B ≤ w.heap.size) (hla : lastLn all = last) (hlv : lv ≤ 17) (hd : P20.Val last (f + 1) lv ts o) (hkk : P20.kindOf ts = 4) (hl6 : ¬ 16 < lv) :
    Calls Tryz.prog 35 #[.pointer (some ⟨rb, 0, none⟩), .int .i64 lv] w (RValPost w B rb all o) := by
  obtain ⟨W0, hW0, hb0, g0, g1, hs0⟩ := two_pair w (.cells #[.int .u8 0, .string ⟨#[]⟩, .slice none 0 0, .slice none 0 0, .int .i64 0] 26) (.cells #[.int .i64 0, .int .i64 0] 29)
  obtain ⟨H, hH⟩ : ∃ H, w.heap.size = H := ⟨_, rfl⟩
  have hR0 : RPr W0 B rb all ts := h.keep hB hb0
  have hG0 := grown_of_below hb0 (some rb)
  have hrb := hR0.lt
  rw [hH] at g0 g1 hs0 hb0
  obtain ⟨⟨r0, s0⟩, ⟨r1, s1⟩, ⟨r2, s2⟩, ⟨r3, s3⟩, ⟨r4, s4⟩⟩ := five_cell g0
  obtain ⟨⟨t0, u0⟩, ⟨t1, u1⟩⟩ := two_cell g1
  have HW0 := hide hW0
  have HG0 := hide g0
  have HG1 := hide g1
  have HLA := hide hla
  have HH := hide hH
  have HD := hide hd
  have HV := hide hV
  have HWI := hide hWi
  have hmx := hmx0
  have HKK := hide hkk
  clear hkk
  clear hW0 g0 g1 h hla hb0 hd hV hWi
  have hlv := hl6
  clear hl6
  have jl : (lv : Int) ≤ 16 := by omega
  have hlw : IntKind.i64.wrap ((lv : Int) + 1) = (lv : Int) + 1 := IntWalk.i64_in _ (by omega)
  have HLV := hide hlv
  clear hlv
  obtain ⟨b, ot, c, k0, m0, p0, hm, hml, hkl, q2⟩ := hR0.here
  obtain ⟨hl0, hhl⟩ : ∃ z, P20.hereL (lastLn all) ts = z := ⟨_, rfl⟩
  rw [hhl] at q2
  have hl1M := hR0.len
  have hz : IntKind.i64.wrap ((all.length : Int) - 1) = (all.length : Int) - 1 := IntWalk.i64_in _ (by omega)
  obtain ⟨⟨x0, _⟩, ⟨x1, _⟩⟩ := two_cell p0
  have hbl := cellLt q2
  have hrl : rb < W0.heap.size := by omega
  have hal : ∀ r o, r < W0.heap.size → (W0.alloc (.cells #[.int .u8 0, .string ⟨#[]⟩, .slice none 0 0, .slice none 0 0, .int .i64 0] 26)).cell? ⟨r, o, none⟩ = W0.cell? ⟨r, o, none⟩ := fun r o h => cell_of_block (Below.heap_alloc _ _ _ h) o
  have x0a := (hal rb 0 hrl).trans x0
  have x1a := (hal rb 1 hrl).trans x1
  have q2a := (hal b (ot + m0 * 4 + 2) hbl).trans q2
  clear hal
  have HHL := hide hhl
  have HR0 := hide hR0
  clear p0 hhl hR0
  go_enter Tryz.func35, Tryz.ntmps35
  go_upto_region 1 with fail
  try rw [unhide HH]
  rw [unhide HW0]
  go_wp2
  go_region
  obtain ⟨W1, hW1⟩ : ∃ W1, (W0.alloc (.cells #[.int .u8 0, .string ⟨#[]⟩, .slice none 0 0, .slice none 0 0, .int .i64 hl0] 26)).drew = W1 := ⟨_, rfl⟩
  have hR1 : RPr W1 B rb all ts := by rw [← hW1]; exact ((unhide HR0).alloc (by have := unhide HH; omega) _).drew
  have hG1 : w.grownBy W1 (some rb) := by rw [← hW1]; exact grown_drew (grown_trans1 hG0 (World.grownBy_alloc W0 _ _))
  have hs1 : W1.heap.size = H + 1 + 1 + 1 := by rw [← hW1]; simp [World.drew]; omega
  have a0 := (show W1.heap[H]? = W0.heap[H]? by rw [← hW1]; exact Below.heap_alloc _ _ _ (by omega)).trans (unhide HG0)
  have a1 := (show W1.heap[H + 1]? = W0.heap[H + 1]? by rw [← hW1]; exact Below.heap_alloc _ _ _ (by omega)).trans (unhide HG1)
  have a2 : W1.heap[H + 1 + 1]? = some (.cells #[.int .u8 0, .string ⟨#[]⟩, .slice none 0 0, .slice none 0 0, .int .i64 hl0] 26) := by rw [← hW1, ← hs0]; exact World.alloc_heap_new W0 _
  rw [hW1]
  obtain ⟨kq, hkq⟩ : ∃ kq : Int, ((P20.kindOf ts : Nat) : Int) = kq := ⟨_, rfl⟩
  clear hW1 x0 x1 x0a x1a q2 q2a hm hml hkl hz hl1M hbl hrl r0 s0 r1 s1 r2 s2 r3 s3 r4 s4 t0 u0 t1 u1 HG0 HG1 HR0 hG0 hs0 HW0
  have HK0 := hide a0
  have HK1 := hide a1
  have HK2 := hide a2
  clear a0 a1 a2
  go_upto_region 6 with (go_at_call 73; refine (rkind_lit B rb all ts kq _ hR1 hkq).mono ?_; rintro e w' ⟨rfl, q, rfl⟩)
  obtain ⟨W2, hW2⟩ : ∃ W2, W1.drewN q = W2 := ⟨_, rfl⟩
  have hR2 : RPr W2 B rb all ts := by rw [← hW2]; exact hR1.drewN q
  have hG2 : w.grownBy W2 (some rb) := by rw [← hW2]; exact grown_trans1 hG1 (grown_drewN _ q _)
  have a0 := (show W2.heap[H]? = W1.heap[H]? by rw [← hW2]; rfl).trans (unhide HK0)
  have a1 := (show W2.heap[H + 1]? = W1.heap[H + 1]? by rw [← hW2]; rfl).trans (unhide HK1)
  have a2 := (show W2.heap[H + 1 + 1]? = W1.heap[H + 1 + 1]? by rw [← hW2]; rfl).trans (unhide HK2)
  have hs2 : W2.heap.size = H + 1 + 1 + 1 := by rw [← hW2]; exact hs1
  have hBH : B ≤ H := by have := unhide HH; omega
  rw [hW2]
  have HK0 := hide a0
  have HK1 := hide a1
  have HKQ := hide hkq
  have HN := hide a2
  clear a0 a1 a2 hW2 hR1 hG1 hs1 HK2 hkq
  have hd := (unhide HD).w
  clear HD
  cases hd with
  | deep h => exact absurd h (unhide HLV)
  | none_ h => exact absurd (unhide HKK) (by simp [P20.kindOf])
  | word h => exact absurd (unhide HKK) (by simp [P20.kindOf])
  | noseq h => exact absurd (unhide HKK) (by simp [P20.kindOf])
  | nomap h => exact absurd (unhide HKK) (by simp [P20.kindOf])
  | form h hk => exact absurd (unhide HKK) (by simp [P20.kindOf]; omega)
  | seq h hs => exact absurd (unhide HKK) (by simp [P20.kindOf])
  | @keys x n c r o2 h hs =>
    obtain rfl : kq = 4 := by have := unhide HKQ; rw [← this]; rfl
    obtain rfl : hl0 = n := (unhide HHL).symm
    have hvi : VI w H B rb all hl0 0 [] [] (.slice none 0 0) (.slice none 0 0) ((4, x, hl0, c) :: r) W2 := ⟨unhide HH, hBH, KS.nil _ _, hR2, hG2, unhide HK0, unhide HK1, unhide HN⟩
    obtain ⟨⟨x0, f0⟩, ⟨x1, f1⟩, ⟨x2, f2⟩, ⟨x3, f3⟩, ⟨x4, f4⟩⟩ := five_cell (unhide HN)
    have hlen0 := hR2.lenH
    have HS0 := hide hs
    have HVI0 := hide (hvi.kind 3)
    clear h hs hvi HK0 HK1 HN hR2 hG2
    go_wp2
    obtain ⟨V0, hV0⟩ : ∃ V0, W2.setCell ⟨H + 1 + 1, 0, none⟩ (.int .u8 3) = V0 := ⟨_, rfl⟩
    rw [show ((3 : Nat) : Int) = 3 from rfl, hV0] at HVI0
    rw [hV0]
    clear hV0 x0 f0 x1 f1 x2 f2 x3 f3 x4 f4
    go_loopg [] f (fun g wx => ∃ (ks : List (List UInt8)) (ds : List Nd) (us : List Tk) (kv dv : Value), g ≤ f ∧ Hid (P20.Ky last g (lv + 1) ks (bareL ds) us o2) ∧ Hid (VI w H B rb all hl0 3 ks ds kv dv us wx) ∧ us.length + ds.length ≤ 1000000 ∧ Hid (ks.length = ds.length) ∧ Hid (∀ x ∈ ks, x.length ≤ 64))
    case atStart => exact ⟨[], [], _, _, _, Nat.le_refl _, HS0, HVI0, by simpa using hlen0, hide rfl, hide (by simp)⟩
    case round =>
      obtain ⟨ks, ds, us, kv, dv, hgf, HS, HVI, hlen, HL, H64⟩ := hrel
      obtain ⟨ka, kc, rfl, _⟩ := (unhide HVI).own.str.slice
      obtain ⟨da, dc, rfl, _⟩ := (unhide HVI).own.kids.slice
      have hs := unhide HS
      clear HS HS0 HVI0 hlen0
      have hlk : ks.length ≤ 1000000 := by have := unhide HL; omega
      rcases hs.way with ⟨hk, rfl⟩ | ⟨x, n, c, r, rfl, hw3⟩
      · clear hs
        have jk2 : (((P20.kindOf us : Nat) : Int) == 4) = false := by
          have : ((P20.kindOf us : Nat) : Int) ≠ 4 := by omega
          simpa using this
        obtain ⟨⟨x0, f0⟩, ⟨x1, f1⟩, ⟨x2, f2⟩, ⟨x3, f3⟩, ⟨x4, f4⟩⟩ := five_cell (unhide HVI).b2
        obtain ⟨⟨r0, s0⟩, ⟨r1, s1⟩, ⟨r2, s2⟩, ⟨r3, s3⟩, ⟨r4, s4⟩⟩ := five_cell (unhide HVI).b0
        obtain ⟨⟨t0, u0⟩, ⟨t1, u1⟩⟩ := two_cell (unhide HVI).b1
        clear hk
        go_wp2_with (go_at_call 73; refine (rkind_any B rb all us _ (unhide HVI).rpr).mono ?_; rintro e w' ⟨rfl, q, rfl⟩)
        have hT := (two_b (W1 := wr.drewN q) (unhide HVI).b0 (unhide HVI).b1 (.int .u8 3) (.string ⟨#[]⟩) (.slice ka ks.length kc) (.slice da ds.length dc) (.int .i64 hl0) (.int .i64 0) (.int .i64 0)).undrew
        exact bodyPost_ret (two_ret rfl _ rfl rfl hT.h0 hT.h1) rfl ⟨3, [], ka, kc, ks, da, dc, ds, hl0, rfl, hide (((unhide HVI).drewN q).done hT (by omega) (unhide H64))⟩
      · simp only [List.length_cons] at hlen
        have hlk9 : ks.length ≤ 999999 := by have := unhide HL; omega
        have hld9 : ds.length ≤ 999999 := by omega
        rcases hw3 with (⟨hx, rfl⟩ | ⟨hx, hm, rfl⟩ | ⟨hx, hm⟩)
        · exact kc_long last lv w H B rb all hl0 ks ds ka da kc dc x n c r wr (unhide HVI) (unhide HLA) jl hlk9 hld9 _ _ _ _ _ _ _ _ _ _ _ _ _ _ _ _ _ _ _ _ _ _ _ _ _ _ _ _ _ _ _ _ _ _ _ _ _ _ _ _ _ _ _ _ _ _ _ _ _ _ _ _ _ _ _ _ _ _ _ _ _ _ _ _ _ _ _ _ _ _ _ _ _ _ _ _ _ _ _ _ _ _ _ _ _ _ _ _ _ _ _ _ _ _ _ _ _ _ _ _ _ _ _ _ _ _ _ _ _ _ _ _ _ _ _ _ _ _ _ _ _ _ _ _ (by omega) (fun tmps w9 h4 h5 e0 e1 hg => bodyPost_ret (two_ret rfl tmps h4 h5 e0 e1) rfl ⟨3, [], ka, ks.length, kc, da, ds.length, dc, hl0, rfl, hide hg⟩) _ _ _ _ _ _ _ _ _ _ _ _ _ _ _ _ _ _ _ _ _ _ _ _ _ _ _ _ _ _ _ _ _ _ _ _ _ _ _ _ _ _ _ _ _ _ _ _ _ _ _ _ _ _ _ _ _ _ _ _ _ _ _ _ _ _ _ _ _ _ _ _ _ _ _ _ _ _ _ _ _ _ _ _ _ _ _ _ _ _ _ _ _
        · exact kc_twice last lv w H B rb all hl0 ks ds ka da kc dc x n c r wr (unhide HVI) (unhide HLA) jl hlk9 hld9 _ _ _ _ _ _ _ _ _ _ _ _ _ _ _ _ _ _ _ _ _ _ _ _ _ _ _ _ _ _ _ _ _ _ _ _ _ _ _ _ _ _ _ _ _ _ _ _ _ _ _ _ _ _ _ _ _ _ _ _ _ _ _ _ _ _ _ _ _ _ _ _ _ _ _ _ _ _ _ _ _ _ _ _ _ _ _ _ _ _ _ _ _ _ _ _ _ _ _ _ _ _ _ _ _ _ _ _ _ _ _ _ _ _ _ _ _ _ _ _ _ _ _ _ (by omega) hm (fun tmps w9 h4 h5 e0 e1 hg => bodyPost_ret (two_ret rfl tmps h4 h5 e0 e1) rfl ⟨3, [], ka, ks.length, kc, da, ds.length, dc, hl0, rfl, hide hg⟩) _ _ _ _ _ _ _ _ _ _ _ _ _ _ _ _ _ _ _ _ _ _ _ _ _ _ _ _ _ _ _ _ _ _ _ _ _ _ _ _ _ _ _ _ _ _ _ _ _ _ _ _ _ _ _ _ _ _ _ _ _ _ _ _ _ _ _ _ _ _ _ _ _ _ _ _ _ _ _ _ _ _ _ _ _ _ _ _ _ _ _ _ _
        obtain ⟨g, rfl, hrest⟩ := hs.rest hx hm
        by_cases hin5 : 5 ≤ P20.kindOf r ∧ P20.kindOf r ≤ 7 ∧ P20.hereL last r = n
        · have hres := hrest.resolve_right (fun h => h.1 hin5)
          obtain ⟨⟨kt, xt, n2, ct⟩, r2, rfl⟩ : ∃ t r2, r = t :: r2 := by
            cases r with
            | nil => simp [P20.kindOf] at hin5
            | cons t r2 => exact ⟨t, r2, rfl⟩
          obtain rfl : n2 = n := hin5.2.2
          refine kc_inl last lv w H B rb all hl0 ks ds ka da kc dc x n2 c kt xt ct r2 wr (unhide HVI) (unhide HLA) jl hlk9 hld9 _ _ _ _ _ _ _ _ _ _ _ _ _ _ _ _ _ _ _ _ _ _ _ _ _ _ _ _ _ _ _ _ _ _ _ _ _ _ _ _ _ _ _ _ _ _ _ _ _ _ _ _ _ _ _ _ _ _ _ _ _ _ _ _ _ _ _ _ _ _ _ _ _ _ _ _ _ _ _ _ _ _ _ _ _ _ _ _ _ _ _ _ _ _ _ _ _ _ _ _ _ _ _ _ _ _ _ _ _ _ _ _ _ _ _ _ _ _ _ _ _ _ _ _ (by omega) hm hin5.1 g (unhide HV g (by omega)) o2 hres.2 (fun v10 v11 v12 v13 v131 v132 v133 v134 v135 v136 v137 v138 v139 v140 v141 v142 v143 v144 v145 v146 v147 v148 v149 v150 v151 v152 v153 v154 v155 v156 v157 v158 v159 v160 v161 v162 v163 v164 v165 v166 v167 v168 v169 v170 v171 v172 v173 v174 v175 v176 v177 v178 v179 v180 v181 v182 v183 v184 v185 v186 v187 v188 v189 v190 v191 v192 v193 v194 v195 v196 v197 v198 v199 v200 v201 v202 v203 v204 v205 v206 v207 v208 v209 v210 v211 v212 v213 v214 v215 v216 v217 v218 v219 nd kv' dv' r' w9 hky hvi' hlt => ?_) (fun e l he tmps w9 h4 h5 e0 e1 hg => by subst he; exact bodyPost_ret (two_ret rfl tmps h4 h5 e0 e1) rfl ⟨3, [], ka, ks.length, kc, da, ds.length, dc, hl0, rfl, hide hg⟩) _ _ _ _ _ _ _ _ _ _ _ _ _ _ _ _ _ _ _ _ _ _ _ _ _ _ _ _ _ _ _ _ _ _ _ _ _ _ _ _ _ _ _ _ _ _ _ _ _ _ _ _ _ _ _ _ _ _ _ _ _ _ _ _ _ _ _ _ _ _ _ _ _ _ _ _ _ _ _ _ _ _ _ _ _ _ _ _ _ _ _ _ _
          dsimp only
          go_step
          go_roundg g
          case measure => omega
          case rel => exact ⟨ks ++ [x], ds ++ [nd], r', kv', dv', by omega, hide hky, hide hvi', by have hln := hlen; simp only [List.length_append, List.length_cons, List.length_nil] at hlt hln ⊢; omega, hide (by simp; exact unhide HL), hide (fun y hy => by
            rcases List.mem_append.1 hy with hy | hy
            · exact unhide H64 y hy
            · rw [List.mem_singleton.1 hy]; omega)⟩
        have hres := hrest.resolve_left (fun h => hin5 h.1)
        by_cases h5 : 5 ≤ P20.kindOf r
        · obtain ⟨⟨kt, xt, n2, ct⟩, r2, rfl⟩ : ∃ t r2, r = t :: r2 := by
            cases r with
            | nil => simp [P20.kindOf] at h5
            | cons t r2 => exact ⟨t, r2, rfl⟩
          have hn2 : n2 ≠ n := by
            obtain ⟨_, _, _, hvt⟩ := (⟨trivial, trivial, trivial, (unhide HVI).rpr⟩ : True ∧ True ∧ True ∧ _)
            have h8 := (hvt.k8' (kt, xt, n2, ct) (by simp)).1
            exact fun e => hin5 ⟨h5, by show kt ≤ 7; simp only at h8; omega, e⟩
          refine kc_far last lv w H B rb all hl0 ks ds ka da kc dc x n c kt xt n2 ct r2 wr (unhide HVI) (unhide HLA) jl hlk9 hld9 _ _ _ _ _ _ _ _ _ _ _ _ _ _ _ _ _ _ _ _ _ _ _ _ _ _ _ _ _ _ _ _ _ _ _ _ _ _ _ _ _ _ _ _ _ _ _ _ _ _ _ _ _ _ _ _ _ _ _ _ _ _ _ _ _ _ _ _ _ _ _ _ _ _ _ _ _ _ _ _ _ _ _ _ _ _ _ _ _ _ _ _ _ _ _ _ _ _ _ _ _ _ _ _ _ _ _ _ _ _ _ _ _ _ _ _ _ _ _ _ _ _ _ _ (by omega) hm h5 hn2 g (unhide HWI g (by omega)) o2 hres.2 (fun v10 v11 v12 v13 v131 v132 v133 v134 v135 v136 v137 v138 v139 v140 v141 v142 v143 v144 v145 v146 v147 v148 v149 v150 v151 v152 v153 v154 v155 v156 v157 v158 v159 v160 v161 v162 v163 v164 v165 v166 v167 v168 v169 v170 v171 v172 v173 v174 v175 v176 v177 v178 v179 v180 v181 v182 v183 v184 v185 v186 v187 v188 v189 v190 v191 v192 v193 v194 v195 v196 v197 v198 v199 v200 v201 v202 v203 v204 v205 v206 v207 v208 v209 v210 v211 v212 v213 v214 v215 v216 v217 v218 v219 nd kv' dv' r' w9 hky hvi' hlt => ?_) (fun e l he tmps w9 h4 h5 e0 e1 hg => by subst he; exact bodyPost_ret (two_ret rfl tmps h4 h5 e0 e1) rfl ⟨3, [], ka, ks.length, kc, da, ds.length, dc, hl0, rfl, hide hg⟩) _ _ _ _ _ _ _ _ _ _ _ _ _ _ _ _ _ _ _ _ _ _ _ _ _ _ _ _ _ _ _ _ _ _ _ _ _ _ _ _ _ _ _ _ _ _ _ _ _ _ _ _ _ _ _ _ _ _ _ _ _ _ _ _ _ _ _ _ _ _ _ _ _ _ _ _ _ _ _ _ _ _ _ _ _ _ _ _ _ _ _ _ _
          dsimp only
          go_step
          go_roundg g
          case measure => omega
          case rel => exact ⟨ks ++ [x], ds ++ [nd], r', kv', dv', by omega, hide hky, hide hvi', by have hln := hlen; simp only [List.length_append, List.length_cons, List.length_nil] at hlt hln ⊢; omega, hide (by simp; exact unhide HL), hide (fun y hy => by
            rcases List.mem_append.1 hy with hy | hy
            · exact unhide H64 y hy
            · rw [List.mem_singleton.1 hy]; omega)⟩
        · refine kc_open last lv w H B rb all hl0 ks ds ka da kc dc x n c r wr (unhide HVI) (unhide HLA) jl hlk9 hld9 _ _ _ _ _ _ _ _ _ _ _ _ _ _ _ _ _ _ _ _ _ _ _ _ _ _ _ _ _ _ _ _ _ _ _ _ _ _ _ _ _ _ _ _ _ _ _ _ _ _ _ _ _ _ _ _ _ _ _ _ _ _ _ _ _ _ _ _ _ _ _ _ _ _ _ _ _ _ _ _ _ _ _ _ _ _ _ _ _ _ _ _ _ _ _ _ _ _ _ _ _ _ _ _ _ _ _ _ _ _ _ _ _ _ _ _ _ _ _ _ _ _ _ _ (by omega) hm (by omega) g (unhide HWI g (by omega)) o2 hres.2 (fun v10 v11 v12 v13 v131 v132 v133 v134 v135 v136 v137 v138 v139 v140 v141 v142 v143 v144 v145 v146 v147 v148 v149 v150 v151 v152 v153 v154 v155 v156 v157 v158 v159 v160 v161 v162 v163 v164 v165 v166 v167 v168 v169 v170 v171 v172 v173 v174 v175 v176 v177 v178 v179 v180 v181 v182 v183 v184 v185 v186 v187 v188 v189 v190 v191 v192 v193 v194 v195 v196 v197 v198 v199 v200 v201 v202 v203 v204 v205 v206 v207 v208 v209 v210 v211 v212 v213 v214 v215 v216 v217 v218 v219 nd kv' dv' r' w9 hky hvi' hlt => ?_) (fun e l he tmps w9 h4 h5 e0 e1 hg => by subst he; exact bodyPost_ret (two_ret rfl tmps h4 h5 e0 e1) rfl ⟨3, [], ka, ks.length, kc, da, ds.length, dc, hl0, rfl, hide hg⟩) _ _ _ _ _ _ _ _ _ _ _ _ _ _ _ _ _ _ _ _ _ _ _ _ _ _ _ _ _ _ _ _ _ _ _ _ _ _ _ _ _ _ _ _ _ _ _ _ _ _ _ _ _ _ _ _ _ _ _ _ _ _ _ _ _ _ _ _ _ _ _ _ _ _ _ _ _ _ _ _ _ _ _ _ _ _ _ _ _ _ _ _ _
          dsimp only
          go_step
          go_roundg g
          case measure => omega
          case rel => exact ⟨ks ++ [x], ds ++ [nd], r', kv', dv', by omega, hide hky, hide hvi', by have hln := hlen; simp only [List.length_append, List.length_cons, List.length_nil] at hlt hln ⊢; omega, hide (by simp; exact unhide HL), hide (fun y hy => by
            rcases List.mem_append.1 hy with hy | hy
            · exact unhide H64 y hy
            · rw [List.mem_singleton.1 hy]; omega)⟩
end Go.Proofs.YtnjokdbblmlhhaaGreatDoor
