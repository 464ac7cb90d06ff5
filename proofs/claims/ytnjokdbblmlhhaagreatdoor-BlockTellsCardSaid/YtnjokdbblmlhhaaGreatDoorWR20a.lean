/- The reference's parser of tokens: kind, fault, has. -/
import Derived.Test.YtnjokdbblmlhhaaGreatDoorGW20
namespace Go.Proofs.YtnjokdbblmlhhaaGreatDoor
set_option linter.unusedVariables false
set_option linter.unusedSimpArgs false
open Go.RowKit
/-- the reference's parser in block rb: all tokens, and those that are left; all of it lies below B -/
structure RPr (W : World) (B rb : Nat) (all ts : List Tk) : Prop where
  ex : ∃ (a : Option Addr) (c k : Nat), W.heap[rb]? = some (.cells #[.slice a all.length c, .int .i64 k] 61) ∧ InT W a all ∧ all.length ≤ c ∧ c ≤ maxLen ∧ all.drop k = ts ∧ k ≤ all.length ∧ ¬ blockOf a rb ∧ (∀ g, blockOf a g → g < B)
  lt : rb < B
  ne : all ≠ []
  k8 : ∀ t ∈ all, t.1 < 8 ∧ t.2.1.length ≤ maxLen
  len : all.length ≤ 1000000
theorem RPr.far {W W' : World} {B rb : Nat} {all ts : List Tk} (h : RPr W B rb all ts) (hb : ∀ g, g < B → W'.heap[g]? = W.heap[g]?) : RPr W' B rb all ts := by
  obtain ⟨⟨a, c, k, g, hi, h1, h2, h3, h4, h5, h6⟩, hlt, hne, k8, hl⟩ := h
  exact ⟨⟨a, c, k, (hb _ hlt).trans g, hi.keep (fun r _ ho => hb r (h6 r ho)), h1, h2, h3, h4, h5, h6⟩, hlt, hne, k8, hl⟩
theorem RPr.keep {W W' : World} {B rb : Nat} {all ts : List Tk} (h : RPr W B rb all ts) (hB : B ≤ W.heap.size) (hb : Below W.heap.size W W') : RPr W' B rb all ts := h.far (fun g hg => hb.block g (by omega))
theorem RPr.alloc {W : World} {B rb : Nat} {all ts : List Tk} (h : RPr W B rb all ts) (hB : B ≤ W.heap.size) (o : Obj) : RPr (W.alloc o) B rb all ts := h.keep hB ((Below.refl _ W).alloc (Nat.le_refl _) o)
theorem RPr.setCell {W : World} {B rb : Nat} {all ts : List Tk} (h : RPr W B rb all ts) {D : Nat} (hD : B ≤ D) (i : Nat) (v : Value) : RPr (W.setCell ⟨D, i, none⟩ v) B rb all ts := h.far (fun g hg => Below.heap_setCell _ _ _ _ (by show g ≠ D; omega))
theorem RPr.drewN {W : World} {B rb : Nat} {all ts : List Tk} (h : RPr W B rb all ts) (n : Nat) : RPr (W.drewN n) B rb all ts := h.far (fun g hg => rfl)
theorem RPr.drew {W : World} {B rb : Nat} {all ts : List Tk} (h : RPr W B rb all ts) : RPr W.drew B rb all ts := h.far (fun g hg => rfl)
/-- the parser's cells, and the token that is next -/
theorem RPr.cons {W : World} {B rb : Nat} {all r : List Tk} {t : Tk} (h : RPr W B rb all (t :: r)) : ∃ (b o c k : Nat), W.heap[rb]? = some (.cells #[.slice (some ⟨b, o, none⟩) all.length c, .int .i64 k] 61) ∧ k < all.length ∧ all.length = k + 1 + r.length ∧ b < W.heap.size ∧ b ≠ rb ∧
    W.cell? ⟨b, o + k * 4, none⟩ = some (.int .u8 t.1) ∧ W.cell? ⟨b, o + k * 4 + 1, none⟩ = some (.string ⟨t.2.1.toArray⟩) ∧ W.cell? ⟨b, o + k * 4 + 2, none⟩ = some (.int .i64 t.2.2.1) ∧ W.cell? ⟨b, o + k * 4 + 3, none⟩ = some (.int .i64 t.2.2.2) := by
  obtain ⟨⟨a, c, k, g, hi, h1, h2, h3, h4, h5, h6⟩, hlt, hne, k8, hl⟩ := h
  have hk : all[k]? = some t := by
    have := congrArg (fun z => z[0]?) h3
    simpa using this
  obtain ⟨b, o, rfl, c0, c1, c2, c3⟩ := hi k t hk
  have hll := congrArg List.length h3
  simp only [List.length_drop, List.length_cons] at hll
  exact ⟨b, o, c, k, g, (List.getElem?_eq_some_iff.1 hk).1, by omega, cellLt c0, fun e => h5 ⟨o, by rw [e]⟩, c0, c1, c2, c3⟩
/-- the token that is next, or the last one: its place and its cells -/
theorem RPr.here {W : World} {B rb : Nat} {all ts : List Tk} (h : RPr W B rb all ts) : ∃ (b o c k m : Nat), W.heap[rb]? = some (.cells #[.slice (some ⟨b, o, none⟩) all.length c, .int .i64 k] 61) ∧ min (k : Int) ((all.length : Int) - 1) = (m : Int) ∧ m < all.length ∧ k ≤ all.length ∧
    W.cell? ⟨b, o + m * 4 + 2, none⟩ = some (.int .i64 (P20.hereL (lastLn all) ts)) := by
  cases ts with
  | cons t r =>
    obtain ⟨b, o, c, k, g, hk, hl, _, _, _, _, c2, _⟩ := h.cons
    exact ⟨b, o, c, k, k, g, by omega, hk, by omega, c2⟩
  | nil =>
    obtain ⟨⟨a, c, k, g, hi, h1, h2, h3, h4, h5, h6⟩, hlt, hne, k8, hl⟩ := h
    obtain ⟨m, hm⟩ : ∃ m, all.length = m + 1 := ⟨all.length - 1, by have := List.length_pos_iff.2 hne; omega⟩
    have hk : all.length ≤ k := by
      have := congrArg List.length h3
      simp only [List.length_drop, List.length_nil] at this
      omega
    have hlast : all[m]? = some (all.getLastD (0, [], 0, 0)) := by
      rw [List.getLastD_eq_getLast?, List.getLast?_eq_getElem?, hm]
      simp only [Nat.add_sub_cancel]
      rw [List.getElem?_eq_getElem (by omega)]
      rfl
    obtain ⟨b, o, rfl, c0, c1, c2, c3⟩ := hi m _ hlast
    exact ⟨b, o, c, k, m, g, by omega, by omega, h4, c2⟩
set_option maxRecDepth 100000 in
theorem rkind_any (B rb : Nat) (all ts : List Tk) (w : World) (h : RPr w B rb all ts) : Calls Tryz.prog 73 #[.pointer (some ⟨rb, 0, none⟩)] w fun e w' => e = .returned (.int .u8 (P20.kindOf ts)) ∧ ∃ n, w' = w.drewN n := by
  have hl := h.len
  cases ts with
  | nil =>
    obtain ⟨⟨a, c, k, g, hi, h1, h2, h3, h4, h5, h6⟩, hlt, hne, k8, _⟩ := h
    have hk : k = all.length := by
      have := congrArg List.length h3
      simp only [List.length_drop, List.length_nil] at this
      omega
    subst hk
    obtain ⟨⟨x0, _⟩, ⟨x1, _⟩⟩ := two_cell g
    clear g hi h1 h2 h3 h4 h5 h6 hne k8
    go_enter Tryz.func73, Tryz.ntmps73
    go_wp2
    go_region
    go_wp2
    go_ret
    exact ⟨rfl, 1, rfl⟩
  | cons t r =>
    obtain ⟨b, o, c, k, g, hk, hll, hbl, hbr, c0, c1, c2, c3⟩ := h.cons
    obtain ⟨⟨x0, _⟩, ⟨x1, _⟩⟩ := two_cell g
    have hkl : (k : Int) < (all.length : Int) := by omega
    clear g h
    go_enter Tryz.func73, Tryz.ntmps73
    go_wp2
    go_region
    go_wp2
    go_region
    go_wp2
    go_ret
    exact ⟨rfl, 2, rfl⟩
theorem rkind_lit (B rb : Nat) (all ts : List Tk) (q : Int) (w : World) (h : RPr w B rb all ts) (hq : ((P20.kindOf ts : Nat) : Int) = q) : Calls Tryz.prog 73 #[.pointer (some ⟨rb, 0, none⟩)] w fun e w' => e = .returned (.int .u8 q) ∧ ∃ n, w' = w.drewN n := by
  rw [← hq]
  exact rkind_any B rb all ts w h
set_option maxRecDepth 100000 in
theorem rfault_any (B rb : Nat) (all ts : List Tk) (e : Int) (w : World) (h : RPr w B rb all ts) : Calls Tryz.prog 36 #[.pointer (some ⟨rb, 0, none⟩), .int .i64 e] w fun x w' =>
    x = .returned (.agg #[.int .i64 e, .int .i64 (P20.hereL (lastLn all) ts)]) ∧ Below w.heap.size w w' := by
  have hl := h.len
  obtain ⟨b, o, c, k, m, g, hm, hml, hkl, c2⟩ := h.here
  obtain ⟨n, hn⟩ : ∃ n, P20.hereL (lastLn all) ts = n := ⟨_, rfl⟩
  rw [hn] at c2 ⊢
  obtain ⟨⟨x0, _⟩, ⟨x1, _⟩⟩ := two_cell g
  have hrl : rb < w.heap.size := (Array.getElem?_eq_some_iff.1 g).1
  have hbl := cellLt c2
  have hb0 : Below w.heap.size w (w.alloc (.cells #[.int .i64 0, .int .i64 0] 29)) := (Below.refl _ w).alloc (Nat.le_refl _) _
  have hz : IntKind.i64.wrap ((all.length : Int) - 1) = (all.length : Int) - 1 := IntWalk.i64_in _ (by omega)
  have h0 := hide (World.alloc_heap_new w (.cells #[.int .i64 0, .int .i64 0] 29))
  clear h hn g
  go_enter Tryz.func36, Tryz.ntmps36
  go_wp2
  go_region
  go_wp2
  exact bodyPost_ret (results_cell_row rfl _ _ _ _ _ _ _ rfl (drewH (World.alloc_heap_new w _)) Tryz.underlying29 rfl (by kernel_rfl)) rfl ⟨rfl, ⟨rfl, rfl, rfl, by simp [World.drew], fun i hi => drewH (Below.heap_alloc _ _ _ hi)⟩⟩
set_option maxRecDepth 100000 in
theorem rhas_any (a : Option Addr) (c : Nat) (ks : List (List UInt8)) (x : List UInt8) (w : World) (h : InS w a ks) (hl : ks.length ≤ 100000000) :
    Calls Tryz.prog 75 #[.slice a ks.length c, .string ⟨x.toArray⟩] w fun e w' => e = .returned (.bool (decide (x ∈ ks))) ∧ w = w' := by
  obtain ⟨n, hn⟩ : ∃ n, ks.length = n := ⟨_, rfl⟩
  rw [hn] at hl ⊢
  have HN := hide hn
  have HI := hide h
  clear hn h
  go_enter Tryz.func75, Tryz.ntmps75
  go_wp2
  go_loopg [5] n (fun g s5 wx => ∃ i : Nat, i + g = n ∧ s5 = .int .i64 i ∧ Hid (decide (x ∈ ks) = decide (x ∈ ks.drop i)) ∧ w = wx)
  case atStart => exact ⟨0, by omega, by go_num, hide rfl, rfl⟩
  case round =>
    obtain ⟨i, hig, rfl, HD, rfl⟩ := hrel
    cases gk with
    | zero =>
      have e1 : (n : Int) = (i : Int) := by omega
      have HE := hide (show i = n by omega)
      go_wp2
      go_ret
      refine ⟨ret_bool ?_, rfl⟩
      rw [unhide HD, List.drop_of_length_le (by rw [unhide HN]; have := unhide HE; omega)]
      rfl
    | succ g' =>
      have hlt : (i : Int) < (n : Int) := by omega
      have hki : IntKind.i64.wrap ((i : Int) + 1) = (i : Int) + 1 := IntWalk.i64_in _ (by omega)
      have hil : i < ks.length := by rw [unhide HN]; omega
      obtain ⟨y, hy⟩ : ∃ y, ks[i] = y := ⟨_, rfl⟩
      obtain ⟨b, o, rfl, hc⟩ := unhide HI i y (by rw [List.getElem?_eq_getElem hil, hy])
      have hd : ks.drop i = y :: ks.drop (i + 1) := by rw [List.drop_eq_getElem_cons hil, hy]
      have HQ := hide hd
      clear hd hy
      by_cases hxy : y = x
      · subst hxy
        go_wp2
        go_ret
        refine ⟨ret_bool ?_, rfl⟩
        rw [unhide HD, unhide HQ]
        simp
      · have HX := hide hxy
        have hbe : (y == x) = false := by simpa using hxy
        clear hxy
        go_wp2
        go_roundg g'
        case measure => omega
        case rel =>
          refine ⟨i + 1, by omega, by go_num, hide ?_, rfl⟩
          rw [unhide HD, unhide HQ]
          have := unhide HX
          simp [Ne.symm this]
end Go.Proofs.YtnjokdbblmlhhaaGreatDoor
