/- walks of cmp.Compare and the clock's comparison -/
import Derived.Test.YtbnheebblicgkaaW30a
import Derived.Test.YtbnheebblicgkaaWStd
namespace Go.Proofs.Ytbnheebblicgkaa
set_option linter.unusedVariables false
set_option linter.unusedSimpArgs false
open Go.RowKit Go.Maps Go.Shelf Go.Sort
/-- three ways: below, above, alike -/
def cmpI (a b : Int) : Int := if a < b then -1 else if b < a then 1 else 0
theorem isNaN64_any (a : Int) (w : World) : Calls Try.prog 29 #[.int .i64 a] w fun e w' => e = .returned (.bool false) ∧ w' = w := by
  go_enter Try.func29, Try.ntmps29
  go_wp2
  go_ret
  exact ⟨by simp, rfl⟩
theorem Compare64_any (a b : Int) (w : World) : Calls Try.prog 24 #[.int .i64 a, .int .i64 b] w fun e w' => e = .returned (.int .i64 (cmpI a b)) ∧ w' = w := by
  by_cases h1 : a < b
  · have hr : cmpI a b = -1 := if_pos h1
    have HR := hide hr
    clear hr
    go_enter Try.func24, Try.ntmps24
    go_wp2_with (go_at_call 29; refine (isNaN64_any _ _).mono ?_; rintro e w1 ⟨rfl, rfl⟩)
    go_ret
    exact ⟨by rw [unhide HR]; rfl, rfl⟩
  · by_cases h2 : b < a
    · have hr : cmpI a b = 1 := by unfold cmpI; rw [if_neg h1, if_pos h2]
      have HR := hide hr
      clear hr
      go_enter Try.func24, Try.ntmps24
      go_wp2_with (go_at_call 29; refine (isNaN64_any _ _).mono ?_; rintro e w1 ⟨rfl, rfl⟩)
      go_ret
      exact ⟨by rw [unhide HR]; rfl, rfl⟩
    · have hr : cmpI a b = 0 := by unfold cmpI; rw [if_neg h1, if_neg h2]
      have HR := hide hr
      clear hr
      go_enter Try.func24, Try.ntmps24
      go_wp2_with (go_at_call 29; refine (isNaN64_any _ _).mono ?_; rintro e w1 ⟨rfl, rfl⟩)
      go_ret
      exact ⟨by rw [unhide HR]; rfl, rfl⟩
theorem Ck.drewN {W : World} {sb bm : Nat} {L : List P30.En} (h : Ck W sb bm L) (n : Nat) : Ck (W.drewN n) sb bm L := ⟨h.cell, h.map⟩
theorem look_run {W : World} {sb bm : Nat} {L : List P30.En} (hc : Ck W sb bm L) {k : Int} (hk : (Lit.int .i64 k).wf = true) :
    (Instr.lookup 48 (.map (some bm)) (.int .i64 k) false).run Try.prog W = .ok (.int .i64 (P30.atOf L k)) W := by
  obtain ⟨c0, n, D, hown, hrep⟩ := hc
  obtain ⟨c, hrun, hat, _⟩ := hown.lookup_int keyI Try.underlying48 Try.underlying2 (zero64 _) (keyOf_int_mk Try.underlying3 hk)
  have := hat.symm.trans (hrep.at_ k)
  simp only [DataW.lit.injEq, Lit.int.injEq, true_and] at this
  rw [hrun, this]
set_option maxRecDepth 100000 in
set_option maxHeartbeats 800000 in
theorem due1_any (sb bm bx : Nat) (L : List P30.En) (x y : Int) (w : World) (hc : Ck w sb bm L) (hx : (Lit.int .i64 x).wf = true) (hy : (Lit.int .i64 y).wf = true) (hb : w.cell? ⟨bx, 0, none⟩ = some (.pointer (some ⟨sb, 0, none⟩))) :
    Calls Try.prog 23 #[.int .i64 x, .int .i64 y, .pointer (some ⟨bx, 0, none⟩)] w fun e w' => e = .returned (.int .i64 (cmpI (P30.atOf L x) (P30.atOf L y))) ∧ ∃ q, w' = w.drewN q := by
  have hmx : Try.prog.follows .mixedOrders = true := by kernel_rfl
  have c0 := hc.cell
  have r1 : ∀ n, (Instr.lookup 48 (.map (some bm)) (.int .i64 x) false).run Try.prog (w.drewN n) = .ok (.int .i64 (P30.atOf L x)) (w.drewN n) := fun n => look_run (hc.drewN n) hx
  have r2 : ∀ n, (Instr.lookup 48 (.map (some bm)) (.int .i64 y) false).run Try.prog (w.drewN n) = .ok (.int .i64 (P30.atOf L y)) (w.drewN n) := fun n => look_run (hc.drewN n) hy
  obtain ⟨ax, hax⟩ : ∃ a, P30.atOf L x = a := ⟨_, rfl⟩
  obtain ⟨ay, hay⟩ : ∃ a, P30.atOf L y = a := ⟨_, rfl⟩
  rw [hax] at r1 ⊢
  rw [hay] at r2 ⊢
  clear hax hay hc hx hy
  go_enter Try.func23, Try.ntmps23
  go_wp2
  go_quiet ((go_at_call 24; exact Calls.quiet_of_same (Compare64_any _ _ _)))
  go_wp2
  go_ret
  exact ⟨rfl, _, rfl⟩
end Go.Proofs.Ytbnheebblicgkaa
