/- walks of (*ticks.Clock).Next and rescriptref26.Same -/
import Derived.Test.YtbnheebblicgkaaW30d
namespace Go.Proofs.Ytbnheebblicgkaa
set_option linter.unusedVariables false
set_option linter.unusedSimpArgs false
open Go.RowKit Go.Maps Go.Shelf Go.Sort
namespace P30
/-- the first tick for which somebody waits -/
def next (L : List En) : Int × Bool := match L with | [] => (0, false) | p :: _ => (p.2, true)
theorem next_of {L : List En} (h : L.Pairwise less) {f : Int} {b : Bool} (h0 : b = false → f = 0) (h1 : b = true → ∃ k, (k, f) ∈ L) (h2 : ∀ k a, (k, a) ∈ L → b = true ∧ f ≤ a) : next L = (f, b) := by
  cases L with
  | nil =>
    cases b with
    | false => rw [h0 rfl]; rfl
    | true => obtain ⟨k, hk⟩ := h1 rfl; simp at hk
  | cons p r =>
    obtain ⟨k0, a0⟩ := p
    obtain ⟨hb, hf⟩ := h2 k0 a0 (by simp)
    obtain ⟨k, hk⟩ := h1 hb
    have : a0 ≤ f := by
      rcases List.mem_cons.1 hk with e | hk
      · cases e; exact Int.le_refl _
      · have := (List.pairwise_cons.1 h).1 _ hk
        unfold less at this
        simp at this
        omega
    show (a0, true) = (f, b)
    rw [hb, show a0 = f by omega]
end P30
set_option maxRecDepth 100000 in
set_option maxHeartbeats 1600000 in
theorem Next_any (sb bm : Nat) (L : List P30.En) (w : World) (hc : Ck w sb bm L) (hok : P30.Ok L) :
    Calls Try.prog 17 #[.pointer (some ⟨sb, 0, none⟩)] w fun e w' => e = .returned (.tuple #[.int .i64 (P30.next L).1, .bool (P30.next L).2]) ∧ w.grownBy w' none := by
  obtain ⟨c0, n, D, hown, hrep⟩ := hc
  have HREP := hide hrep
  have HOK := hide hok
  clear hrep hok
  go_enter Try.func17, Try.ntmps17
  go_wp2_with (first
    | (at_range; refine wpList_range_own _ rfl _ 48 rfl 3 2 keyI Try.underlying48 _ bm n _ rfl hown ?_; intro w0 hrg0 hg0 hs0))
  go_frame
  have HG0 := hide hg0
  obtain ⟨r, hr⟩ : ∃ r, w.heap.size = r := ⟨_, rfl⟩
  rw [hr] at hrg0 hs0 ⊢
  have HR := hide hr
  have HS0 := hide hs0
  clear hg0 hs0 hr hown c0
  go_loopg [4, 5] (Maps.size D) (fun g s4 s5 wx => ∃ (left : Lit → Bool) (cnt : Nat) (f : Int) (b : Bool), s4 = .int .i64 f ∧ s5 = .bool b ∧ cnt ≤ g ∧ wx.ranges Try.prog 3 (plainElem Try.prog 2) bm r n D left cnt ∧ w0.grownBy wx (some r) ∧ Hid (b = false → f = 0) ∧ Hid (b = true → ∃ k, (k, f) ∈ L) ∧ Hid (∀ k a, (k, a) ∈ L → left (.int .i64 k) = false → b = true ∧ f ≤ a))
  case atStart =>
    refine ⟨_, _, 0, false, rfl, rfl, Nat.le_refl _, hrg0, ⟨rfl, rfl, rfl, Nat.le_refl _, fun i _ _ => rfl⟩, hide (fun _ => rfl), hide (fun h => by cases h), hide (fun k a hk hl => ?_)⟩
    rw [(unhide HREP).has, (P30.look_mem (unhide HOK).nodup).2 hk] at hl
    cases hl
  case round =>
    obtain ⟨left, cnt, f, b, rfl, rfl, hcg, hrg, hgw, H0, H1, H2⟩ := hrel
    have HGW := hide hgw
    clear hgw
    go_wp2_with (first
      | (at_next; refine wpList_next_ranges_ii _ rfl _ rfl 3 2 .i64 .i64 keyI Try.underlying3 Try.underlying2 bm r n _ _ _ rfl hrg ?_ ?_))
    · intro _ hl0
      have hn := P30.next_of (unhide HOK).sort (unhide H0) (unhide H1) (fun k a hk => unhide H2 k a hk (hl0 _))
      have HNX := hide hn
      clear hn hl0
      go_wp2
      go_ret2
      refine ⟨by rw [unhide HNX]; rfl, ?_⟩
      have a1 := unhide HG0
      have a2 := unhide HGW
      exact ⟨a2.os.trans a1.os, a2.tape.trans a1.tape, a2.output.trans a1.output, Nat.le_trans a1.size a2.size, fun i hi _ => (a2.block i (Nat.lt_of_lt_of_le hi a1.size) (by have := unhide HR; simp; omega)).trans (a1.block i hi (by simp))⟩
    · intro x c w1 cnt1 hwx hwc hlx hat hrg1 hlt hg1 hs1 hen
      have hxc : (x, c) ∈ L := by
        have h1 := Maps.has_true_of_atKey hat
        rw [(unhide HREP).has] at h1
        obtain ⟨a, ha⟩ := Option.isSome_iff_exists.1 h1
        have h2 := (hat (.lit (.int .i64 0))).symm.trans ((unhide HREP).at_ x)
        have h3 : P30.atOf L x = a := by unfold P30.atOf; rw [ha]; rfl
        rw [h3] at h2
        simp only [DataW.lit.injEq, Lit.int.injEq, true_and] at h2
        subst h2
        exact (P30.look_mem (unhide HOK).nodup).1 ha
      have hkey : ∀ k a, (k, a) ∈ L → (left (.int .i64 k) && !(Lit.int .i64 k).sameKey (.int .i64 x)) = false → left (.int .i64 k) = false ∨ a = c := by
        intro k a hk hl
        by_cases hkx : k = x
        · subst hkx
          right
          have e1 := (P30.look_mem (unhide HOK).nodup).2 hk
          have e2 := (P30.look_mem (unhide HOK).nodup).2 hxc
          rw [e1] at e2
          exact Option.some.inj e2
        · left
          have : (Lit.int .i64 k).sameKey (.int .i64 x) = false := sameKey_ne (by simpa using hkx)
          rw [this] at hl
          simpa using hl
      have HXC := hide hxc
      have HKY := hide hkey
      have HG1 := hide ((unhide HGW).trans (c := w1) hg1)
      clear hxc hkey hat hs1 hg1 hwx hwc hlx
      cases b with
      | false =>
        go_wp2
        go_roundg (gk - 1)
        case measure => omega
        case rel =>
          refine ⟨_, cnt1, c, true, rfl, rfl, by omega, hrg1, unhide HG1, hide (fun h => by cases h), hide (fun _ => ⟨x, unhide HXC⟩), hide (fun k a hk hl => ⟨rfl, ?_⟩)⟩
          rcases unhide HKY k a hk hl with h | h
          · exact absurd (unhide H2 k a hk h).1 (by simp)
          · omega
      | true =>
        have hex := unhide H1 rfl
        have HEX := hide hex
        clear hex H1
        by_cases hcf : c < f
        · go_wp2
          go_roundg (gk - 1)
          case measure => omega
          case rel =>
            refine ⟨_, cnt1, c, true, rfl, rfl, by omega, hrg1, unhide HG1, hide (fun h => by cases h), hide (fun _ => ⟨x, unhide HXC⟩), hide (fun k a hk hl => ⟨rfl, ?_⟩)⟩
            rcases unhide HKY k a hk hl with h | h
            · have := (unhide H2 k a hk h).2; omega
            · omega
        · have hcf2 : f ≤ c := by omega
          clear hcf
          go_wp2
          go_roundg (gk - 1)
          case measure => omega
          case rel =>
            refine ⟨_, cnt1, f, true, rfl, rfl, by omega, hrg1, unhide HG1, hide (fun h => by cases h), hide (fun _ => unhide HEX), hide (fun k a hk hl => ⟨rfl, ?_⟩)⟩
            rcases unhide HKY k a hk hl with h | h
            · exact (unhide H2 k a hk h).2
            · omega
theorem RdI.kept {W W' : World} {B : Nat} {v : Value} {zs : List Int} {row : Option Nat} (h : RdI W B v zs) (hg : W.grownBy W' row) (hr : ∀ r, row = some r → r < B) : RdI W' B v zs := by
  obtain ⟨ao, cap, hv, hc⟩ := h
  refine ⟨ao, cap, hv, fun i z hi => ?_⟩
  obtain ⟨g, h1, h2, h3⟩ := hc i z hi
  exact ⟨g, h1, h2, cell_kept hg h3 (fun e => by have := hr g e.symm; omega)⟩
set_option maxRecDepth 100000 in
set_option maxHeartbeats 800000 in
/-- rescriptref26.Same at like rows -/
theorem Same26_any (a b : Value) (zs : List Int) (B1 B2 : Nat) (w : World) (ha : RdI w B1 a zs) (hb : RdI w B2 b zs) (hlen : zs.length ≤ 100000000) :
    Calls Try.prog 12 #[a, b] w fun e w' => e = .returned (.bool true) ∧ ∃ q, w' = w.drewN q := by
  obtain ⟨ao, cap, rfl, hca⟩ := ha
  obtain ⟨bo, cap2, rfl, hcb⟩ := hb
  have HCA := hide hca
  have HCB := hide hcb
  clear hca hcb
  obtain ⟨n, hn⟩ : ∃ n, zs.length = n := ⟨_, rfl⟩
  rw [hn] at hlen ⊢
  have HN := hide hn
  clear hn
  go_enter Try.func12, Try.ntmps12
  go_wp2
  go_loopg [5] n (fun g s5 wx => ∃ i m : Nat, i + g = n ∧ s5 = .int .i64 i ∧ w.drewN m = wx)
  case atStart => exact ⟨0, 0, by omega, by go_num, rfl⟩
  case round =>
    obtain ⟨i, m, hig, rfl, rfl⟩ := hrel
    cases gk with
    | zero =>
      have e1 : (n : Int) = (i : Int) := by omega
      go_wp2
      go_ret
      exact ⟨rfl, m, rfl⟩
    | succ g' =>
      have hlt : (i : Int) < (n : Int) := by omega
      have hki : IntKind.i64.wrap ((i : Int) + 1) = (i : Int) + 1 := IntWalk.i64_in _ (by omega)
      have hil : i < zs.length := by rw [unhide HN]; omega
      have hgl : zs[i]? = some zs[i] := List.getElem?_eq_getElem hil
      generalize zs[i] = z at hgl
      obtain ⟨g1, rfl, hg1, c1⟩ := unhide HCA i _ hgl
      obtain ⟨g2, rfl, hg2, c2⟩ := unhide HCB i _ hgl
      clear hgl
      go_wp2
      go_quiet (fail)
      go_wp2
      go_roundg g'
      case measure => omega
      case rel => exact ⟨i + 1, m + nq, by omega, by go_num, rfl⟩
end Go.Proofs.Ytbnheebblicgkaa
