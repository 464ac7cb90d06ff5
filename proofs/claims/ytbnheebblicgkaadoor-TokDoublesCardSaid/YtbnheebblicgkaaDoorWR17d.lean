/- walks of layer 17's laws: same, live -/
import Derived.Test.YtbnheebblicgkaaDoorW17i
namespace Go.Proofs.YtbnheebblicgkaaDoor
set_option linter.unusedVariables false
set_option linter.unusedSimpArgs false
open Go.RowKit Go.Shelf
set_option maxRecDepth 100000 in
set_option maxHeartbeats 1600000 in
theorem same_any (a b : Value) (nb : Bool) (rs : List (Int × Int × ByteArray)) (w : World) (ha : RdL w w.heap.size a rs) (hb : RdL w w.heap.size b rs) (hlen : rs.length ≤ 100000000) :
    Calls Tryd.prog 13 #[a, b, .bool nb] w fun e w' => e = .returned (.bool true) ∧ ∃ n, w' = w.drewN n := by
  obtain ⟨ao, cap, rfl, hca⟩ := ha
  obtain ⟨bo, cap2, rfl, hcb⟩ := hb
  have HCA := hide hca
  have HCB := hide hcb
  clear hca hcb
  obtain ⟨n, hn⟩ : ∃ n, rs.length = n := ⟨_, rfl⟩
  rw [hn] at hlen ⊢
  have HN := hide hn
  clear hn
  go_enter Tryd.func13, Tryd.ntmps13
  go_wp2
  go_loopg [7] n (fun g s7 wx => ∃ i m : Nat, i + g = n ∧ s7 = .int .i64 i ∧ w.drewN m = wx)
  case atStart => exact ⟨0, 0, by omega, by go_num, rfl⟩
  case round =>
    obtain ⟨i, m, hig, rfl, rfl⟩ := hrel
    cases gk with
    | zero =>
      have e1 : (n : Int) = (i : Int) := by omega
      go_wp2
      go_ret
      exact ⟨rfl, m, rfl⟩
    | succ g' =>
      have hlt : (i : Int) < (n : Int) := by omega
      have hki : IntKind.i64.wrap ((i : Int) + 1) = (i : Int) + 1 := IntWalk.i64_in _ (by omega)
      have hil : i < rs.length := by rw [unhide HN]; omega
      have hgl : rs[i]? = some rs[i] := List.getElem?_eq_getElem hil
      obtain ⟨⟨r1, r2, r3⟩, hr⟩ : ∃ r, rs[i] = r := ⟨_, rfl⟩
      rw [hr] at hgl
      obtain ⟨g, o, rfl, hg, hc0, hc1, hc2⟩ := unhide HCA i _ hgl
      obtain ⟨g2, o2, rfl, hg2, hd0, hd1, hd2⟩ := unhide HCB i _ hgl
      clear hgl hr
      cases nb
      · go_wp2
        go_region
        go_wp2
        go_roundg g'
        case measure => omega
        case rel => exact ⟨i + 1, m + 1, by omega, by go_num, rfl⟩
      · go_wp2
        go_region
        go_wp2
        go_roundg g'
        case measure => omega
        case rel => exact ⟨i + 1, m + 1, by omega, by go_num, rfl⟩
end Go.Proofs.YtbnheebblicgkaaDoor
