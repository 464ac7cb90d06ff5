/- walks of slices.Reverse at []byte, and scalar.Digits -/
import Derived.Test.YthnfiijojamlaaaInfo
import Derived.Test.YthnfiijojamlaaaW18f
import Derived.Shelf.SlicesE.Kit
import Derived.Sort.WalkB12
import Derived.Lib.SlicesMore
import Derived.Lib.OwnBridge
import Derived.Lib.Walk
namespace Go.Proofs.Ythnfiijojamlaaa
set_option linter.unusedVariables false
set_option linter.unusedSimpArgs false
open Go.RowKit Go.Lib Go.Sort
theorem oneBc : OneCell bc := fun _ => rfl
set_option maxHeartbeats 1600000 in
set_option maxRecDepth 1000000 in
theorem Reverse_bytes (blk off cap : Nat) (d : Array UInt8) (w : World) (hH : Holds bc w blk off d) (hsz : d.size ≤ 9223372036854775807) :
    Calls Try.prog 30 #[.slice (some ⟨blk, off, none⟩) d.size cap] w fun e w' => e = .returned (.tuple #[]) ∧ ∃ n, w' = putRow bc (Sort.ahead w n) blk off d.reverse := by
  have hcl := oneBc.cells
  simp only [Value.cells] at hcl
  have hst := oneBc.store Try.prog
  go_enter Try.func30, Try.ntmps30
  go_wp2
  go_loopg [2, 3] d.size (fun k s2 s3 wr => ∃ (i jn : Nat) (jz : Int) (dk : Array UInt8) (n : Nat), s2 = .int .i64 i ∧ s3 = .int .i64 jz ∧ ((i : Int) < jz → jz = jn ∧ jn < d.size) ∧ (¬ (i : Int) < jz → ¬ i < jn) ∧ jn - i ≤ k ∧
    dk.size = d.size ∧ wr = putRow bc (Sort.ahead w n) blk off dk ∧ reverseLoop i jn dk = reverseLoop 0 (d.size - 1) d)
  case atStart => exact ⟨0, d.size - 1, (d.size : Int) - 1, d, 0, rfl, rfl, fun h => ⟨by omega, by omega⟩, fun h => by omega, by omega, rfl, (putRow_self bc w blk off d hH).symm, rfl⟩
  case round =>
    obtain ⟨i, jn, jz, dk, n, rfl, rfl, h1, h2, hk, hds, hwr, heq⟩ := hrel
    by_cases hlt : (i : Int) < jz
    · obtain ⟨rfl, hjn⟩ := h1 hlt
      have hij : i < jn := by omega
      have hHk : Holds bc wr blk off dk := by rw [hwr]; exact holds_putRow bc _ blk off d dk (holds_ahead bc w n blk off d hH) hds
      obtain ⟨ci, fi⟩ := hHk i (by omega)
      obtain ⟨cj, fj⟩ := hHk jn (by omega)
      have A : Aside (wr = putRow bc (Sort.ahead w n) blk off dk) := hwr
      clear hwr hHk hH h1 h2
      go_wp2_with fail
      go_region
      go_wp2
      go_roundg (jn - 1 - (i + 1))
      case measure => omega
      case rel =>
        rw [reverseLoop, if_pos hij] at heq
        exact ⟨i + 1, jn - 1, (jn : Int) - 1, swp dk i jn, n + 1, by simp, rfl, fun h => ⟨by omega, by omega⟩, fun h => by omega, Nat.le_refl _, by rw [size_swp]; exact hds,
          swap_world bc (by omega) (by omega) A.out (by first | rfl | simp [getElem!_pos, show jn < dk.size by omega]) (by first | rfl | simp [getElem!_pos, show i < dk.size by omega]), heq⟩
    · have hnot := h2 hlt
      go_wp2
      go_end0
      refine ⟨rfl, n, ?_⟩
      rw [reverseLoop, if_neg hnot] at heq
      rw [← Lib.reverseLoop_reverse, ← heq]
/-- at a row of the call's own -/
theorem Reverse_own {w w0 : World} {v : Value} {l : List UInt8} (hb : Below w0.heap.size w0 w) (hown : OwnB w w0.heap.size 5 v l) (hl : 0 < l.length) (hl2 : l.length ≤ 1000000) :
    Calls Try.prog 30 #[v] w fun e w' => e = .returned (.tuple #[]) ∧ OwnB w' w0.heap.size 5 v l.reverse ∧ Below w0.heap.size w0 w' := by
  have hv : v ≠ .slice none 0 0 := by
    rintro rfl
    rcases hown.2 with ⟨_, h0⟩ | ⟨g, cap, cur, h0, _⟩
    · omega
    · cases h0
  obtain ⟨g, cap, rfl, hbg, hg, hn, hm, hlen, hH⟩ := Lib.holds_of_ownsRow (enc := bc) hown hv
  have := Reverse_bytes g 0 cap l.toArray w hH (by simp; omega)
  simp only [List.size_toArray] at this
  refine this.mono fun e w' ⟨h1, n, h2⟩ => ⟨h1, ?_, ?_⟩
  · have h3 := Lib.ownsRow_putRow (enc := bc) (q := n) (k := l.length) (ys := l.reverse) hown (by simp) (Nat.le_refl _)
    rw [List.take_of_length_le (by simp)] at h3
    rw [h2]
    unfold OwnB
    simpa using h3
  · rw [h2]
    exact Lib.below_putRow hb hbg
set_option maxHeartbeats 800000 in
set_option maxRecDepth 100000 in
theorem Digits_any (n : Int) (w : World) :
    Calls Try.prog 19 #[.int .i64 n] w fun e w' => ∃ b : ByteArray, e = .returned (.string b) ∧ b.data.toList = P18.digits n ∧ Below w.heap.size w w' := by
  by_cases hr : n < 0 ∨ 999999999 < n
  · have hfin : P18.digits n = [] := by rw [P18.digits, if_pos hr]
    rw [hfin]
    clear hfin
    rcases hr with hr | hr
    all_goals
      go_enter Try.func19, Try.ntmps19
      go_wp2
      go_ret
      exact ⟨_, rfl, rfl, Below.refl _ _⟩
  · have hfin : P18.digits n = (P18.digs n.toNat).reverse := by rw [P18.digits, if_neg hr]
    rw [hfin]
    clear hfin
    obtain ⟨N, rfl⟩ := Int.eq_ofNat_of_zero_le (show 0 ≤ n by omega)
    rw [Int.toNat_natCast]
    have hN : (N : Int) ≤ 999999999 := by omega
    clear hr
    have hm0 : 0 ≤ (N : Int) % 10 ∧ (N : Int) % 10 < 10 := by omega
    go_enter Try.func19, Try.ntmps19
    go_wp2
    go_loopg [0, 3] 9 (fun g s0 s3 wx => ∃ (m : Nat) (out : List UInt8), s0 = .int .i64 (m : Int) ∧ m ≤ 999999999 ∧ m < 10 ^ (g + 1) ∧ Hid (P18.digs N = out ++ P18.moreDigs g m) ∧ 0 < out.length ∧ out.length + g ≤ 10 ∧ OwnB wx w.heap.size 5 s3 out ∧ Below w.heap.size w wx)
    case atStart =>
      refine ⟨N, [UInt8.ofNat (48 + N % 10)], rfl, by omega, by omega, rfl, by simp, by simp, ?_, (Below.refl _ _).alloc (Nat.le_refl _) _⟩
      refine OwnB.lit w 5 _ [UInt8.ofNat (48 + N % 10)] (Nat.le_refl _) (by simp [maxLen]) ?_
      simp [bc]
      omega
    case round =>
      obtain ⟨m, out, rfl, hm9, hmg, HP, ho0, hog, hown, hb⟩ := hrel
      have hm0 : 0 ≤ (m : Int) / 10 % 10 ∧ (m : Int) / 10 % 10 < 10 := by omega
      by_cases h10 : m < 10
      · have hfin : P18.digs N = out := by
          rw [unhide HP]
          cases gk with
          | zero => simp [P18.moreDigs]
          | succ g => rw [P18.moreDigs_step, if_pos h10]; simp
        have HF := hide hfin
        have h10' : (m : Int) < 10 := by omega
        have ho2 : out.length ≤ 1000000 := by omega
        clear hmg hfin
        go_wp2_with (first
          | (go_at_call 30; refine (Reverse_own hb hown ho0 ho2).mono ?_; rintro e w1 ⟨rfl, hown1, hb1⟩; have hcv := conv_own (P := Try.prog) 34 9 Try.underlying34 Try.underlying5 Try.underlying9 hown1))
        go_ret
        exact ⟨_, rfl, by rw [unhide HF], hb1⟩
      · cases gk with
        | zero => omega
        | succ g =>
          have h10' : 10 ≤ (m : Int) := by omega
          have hr := unhide HP
          rw [P18.moreDigs_step, if_neg h10] at hr
          have HR := hide hr
          have HM := hide hmg
          clear hmg hr
          go_wp2_with (first
            | (at_builtin; refine wpList_app1 rfl (.tmp 19) (.tmp 24) 34 rfl Try.underlying34 byteInfo rfl hown _ (by omega) (by omega) rfl (by omega) hb.size ?_; intro v1 w1 hown1 hg1 _; have hb1 := below_app1 hb hown hg1))
          have e1 : UInt8.ofNat (48 + (m : Int) / 10 % 10).toNat = UInt8.ofNat (48 + m / 10 % 10) := by congr 1
          rw [e1] at hown1
          go_roundg g
          case measure => omega
          case rel =>
            refine ⟨m / 10, out ++ [UInt8.ofNat (48 + m / 10 % 10)], by go_num, by omega, ?_, ?_, by simp, by simp; omega, hown1, hb1⟩
            · have := unhide HM
              rw [Nat.pow_succ] at this; omega
            · show _ = _
              rw [unhide HR]; simp
end Go.Proofs.Ythnfiijojamlaaa
