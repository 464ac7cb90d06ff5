/- rescriptlaw18.live returns true. -/
import Derived.Test.YthnfiijojamlaaaW18e
import Derived.Test.YthnfiijojamlaaaW18g
namespace Go.Proofs.Ythnfiijojamlaaa
set_option linter.unusedVariables false
set_option linter.unusedSimpArgs false
open Go.RowKit
theorem TextErr.lit {w : World} {x : List UInt8 × Int} {e : Ending} {w' : World} (h : TextErr w x e w') : e = .returned (.tuple #[.string ⟨x.1.toArray⟩, .int .i64 x.2]) ∧ Below w.heap.size w w' := by
  obtain ⟨b, rfl, hb, hw⟩ := h
  exact ⟨by rw [← hb, Lib.mk_data], hw⟩
theorem TextPost.lit {w : World} {x : List UInt8} {e : Ending} {w' : World} (h : TextPost w x e w') : e = .returned (.string ⟨x.toArray⟩) ∧ Below w.heap.size w w' := by
  obtain ⟨b, rfl, hb, hw⟩ := h
  exact ⟨by rw [← hb, Lib.mk_data], hw⟩
theorem r1 : P18.read [34, 92, 120, 48, 55, 92, 110, 34] = ([7, 10], 0) := by decide +kernel
theorem r2 : P18.read [45, 97] = ([], 3) := by decide +kernel
theorem r3 : P18.read [34, 255, 34] = ([], 9) := by decide +kernel
theorem c1 : P18.cut [34, 97, 92, 34, 98, 34, 32, 99] = (6, 0) := by decide +kernel
theorem n1 : P18.number [49, 50, 48] = (120, 0) := by decide +kernel
theorem n2 : P18.number [48, 49] = (0, 3) := by decide +kernel
theorem p1 : P18.plain [97, 45, 98] = true := by decide +kernel
theorem p2 : P18.plain [97, 32, 98] = false := by decide +kernel
theorem q1 : P18.quote [97, 10] = [34, 97, 92, 110, 34] := by decide +kernel
theorem q2 : P18.put [] = [34, 34] := by decide +kernel
theorem d1 : P18.digits 120 = [49, 50, 48] := by decide +kernel
theorem d2 : P18.digits (-1) = [] := by decide +kernel
theorem rd (s : ByteArray) (x : List UInt8 × Int) (w : World) (h : s.size ≤ 100) (hx : P18.read s.data.toList = x) :
    Calls Try.prog 8 #[.string s] w fun e w' => e = .returned (.tuple #[.string ⟨x.1.toArray⟩, .int .i64 x.2]) ∧ Below w.heap.size w w' := by
  have := Read_any s w (by omega)
  rw [hx] at this
  exact this.mono fun _ _ h => h.lit
theorem lr1 (w : World) : Calls Try.prog 8 #[.string ⟨#[34, 92, 120, 48, 55, 92, 110, 34]⟩] w fun e w' => e = .returned (.tuple #[.string ⟨#[7, 10]⟩, .int .i64 0]) ∧ Below w.heap.size w w' := rd ⟨#[34, 92, 120, 48, 55, 92, 110, 34]⟩ ([7, 10], 0) w (by decide) r1
theorem lr2 (w : World) : Calls Try.prog 8 #[.string ⟨#[45, 97]⟩] w fun e w' => e = .returned (.tuple #[.string ⟨#[]⟩, .int .i64 3]) ∧ Below w.heap.size w w' := rd ⟨#[45, 97]⟩ ([], 3) w (by decide) r2
theorem lr3 (w : World) : Calls Try.prog 8 #[.string ⟨#[34, 255, 34]⟩] w fun e w' => e = .returned (.tuple #[.string ⟨#[]⟩, .int .i64 9]) ∧ Below w.heap.size w w' := rd ⟨#[34, 255, 34]⟩ ([], 9) w (by decide) r3
theorem lc1 (w : World) : Calls Try.prog 10 #[.string ⟨#[34, 97, 92, 34, 98, 34, 32, 99]⟩] w fun e w' => e = .returned (.tuple #[.int .i64 6, .int .i64 0]) ∧ w' = w := by
  have := Cut_any ⟨#[34, 97, 92, 34, 98, 34, 32, 99]⟩ w (by decide)
  rw [show (⟨#[34, 97, 92, 34, 98, 34, 32, 99]⟩ : ByteArray).data.toList = [34, 97, 92, 34, 98, 34, 32, 99] from rfl, c1] at this
  exact this
theorem ln1 (w : World) : Calls Try.prog 20 #[.string ⟨#[49, 50, 48]⟩] w fun e w' => e = .returned (.tuple #[.int .i64 120, .int .i64 0]) ∧ Below w.heap.size w w' := by
  have := Number_any ⟨#[49, 50, 48]⟩ w (by decide)
  rw [show (⟨#[49, 50, 48]⟩ : ByteArray).data.toList = [49, 50, 48] from rfl, n1] at this
  exact this
theorem ln2 (w : World) : Calls Try.prog 20 #[.string ⟨#[48, 49]⟩] w fun e w' => e = .returned (.tuple #[.int .i64 0, .int .i64 3]) ∧ Below w.heap.size w w' := by
  have := Number_any ⟨#[48, 49]⟩ w (by decide)
  rw [show (⟨#[48, 49]⟩ : ByteArray).data.toList = [48, 49] from rfl, n2] at this
  exact this
theorem lp1 (w : World) : Calls Try.prog 12 #[.string ⟨#[97, 45, 98]⟩] w fun e w' => e = .returned (.bool true) ∧ w' = w := by
  have := Plain_any ⟨#[97, 45, 98]⟩ w (by decide)
  rw [show (⟨#[97, 45, 98]⟩ : ByteArray).data.toList = [97, 45, 98] from rfl, p1] at this
  exact this
theorem lp2 (w : World) : Calls Try.prog 12 #[.string ⟨#[97, 32, 98]⟩] w fun e w' => e = .returned (.bool false) ∧ w' = w := by
  have := Plain_any ⟨#[97, 32, 98]⟩ w (by decide)
  rw [show (⟨#[97, 32, 98]⟩ : ByteArray).data.toList = [97, 32, 98] from rfl, p2] at this
  exact this
theorem lq1 (w : World) : Calls Try.prog 14 #[.string ⟨#[97, 10]⟩] w fun e w' => e = .returned (.string ⟨#[34, 97, 92, 110, 34]⟩) ∧ Below w.heap.size w w' := by
  have := Quote_any ⟨#[97, 10]⟩ w (by decide)
  rw [show (⟨#[97, 10]⟩ : ByteArray).data.toList = [97, 10] from rfl, q1] at this
  exact this.mono fun _ _ h => TextPost.lit h
theorem lq2 (w : World) : Calls Try.prog 16 #[.string ⟨#[]⟩] w fun e w' => e = .returned (.string ⟨#[34, 34]⟩) ∧ Below w.heap.size w w' := by
  have := Put_any ⟨#[]⟩ w (by decide)
  rw [show (⟨#[]⟩ : ByteArray).data.toList = [] from rfl, q2] at this
  exact this.mono fun _ _ h => TextPost.lit h
theorem ld1 (w : World) : Calls Try.prog 19 #[.int .i64 120] w fun e w' => e = .returned (.string ⟨#[49, 50, 48]⟩) ∧ Below w.heap.size w w' := by
  have := Digits_any 120 w
  rw [d1] at this
  exact this.mono fun _ _ h => TextPost.lit h
theorem ld2 (w : World) : Calls Try.prog 19 #[.int .i64 (-1)] w fun e w' => e = .returned (.string ⟨#[]⟩) ∧ Below w.heap.size w w' := by
  have := Digits_any (-1) w
  rw [d2] at this
  exact this.mono fun _ _ h => TextPost.lit h
set_option maxRecDepth 100000 in
set_option maxHeartbeats 1600000 in
theorem live_any (w : World) : Calls Try.prog 7 #[] w fun e w' => e = .returned (.bool true) ∧ Below w.heap.size w w' := by
  go_enter Try.func7, Try.ntmps7
  go_wp2_with fail
  refine (lr1 _).mono ?_; rintro e w1 ⟨rfl, hb1⟩
  go_wp2_with fail
  refine (lr2 _).mono ?_; rintro e w2 ⟨rfl, hb2⟩
  go_wp2_with fail
  refine (lr3 _).mono ?_; rintro e w3 ⟨rfl, hb3⟩
  go_wp2_with fail
  refine (lc1 _).mono ?_; rintro e w4 ⟨rfl, rfl⟩
  go_wp2_with fail
  refine (ln1 _).mono ?_; rintro e w5 ⟨rfl, hb5⟩
  go_wp2_with fail
  refine (ln2 _).mono ?_; rintro e w6 ⟨rfl, hb6⟩
  go_wp2_with fail
  refine (lp1 _).mono ?_; rintro e w7 ⟨rfl, rfl⟩
  go_wp2_with fail
  refine (lp2 _).mono ?_; rintro e w8 ⟨rfl, rfl⟩
  go_wp2_with fail
  refine (lq1 _).mono ?_; rintro e w9 ⟨rfl, hb9⟩
  go_wp2_with fail
  refine (lq2 _).mono ?_; rintro e w10 ⟨rfl, hb10⟩
  go_wp2_with fail
  refine (ld1 _).mono ?_; rintro e w11 ⟨rfl, hb11⟩
  go_wp2_with fail
  refine (ld2 _).mono ?_; rintro e w12 ⟨rfl, hb12⟩
  go_wp2_with fail
  go_ret
  refine ⟨rfl, ?_⟩
  have s1 := hb1.size; have s2 := hb2.size; have s3 := hb3.size; have s5 := hb5.size; have s6 := hb6.size; have s9 := hb9.size; have s10 := hb10.size; have s11 := hb11.size
  exact hb1.trans ((hb2.mono (by omega)).trans ((hb3.mono (by omega)).trans ((hb5.mono (by omega)).trans ((hb6.mono (by omega)).trans ((hb9.mono (by omega)).trans ((hb10.mono (by omega)).trans ((hb11.mono (by omega)).trans (hb12.mono (by omega)))))))))
end Go.Proofs.Ythnfiijojamlaaa
