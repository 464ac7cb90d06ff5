/- BlockParses: the tree of any text, or what is wrong, and in which line. -/
import Derived.Test.YtnjokdbblmlhhaaGreatDoorLive20
import Derived.Test.YtnjokdbblmlhhaaGreatDoorWR20j
namespace Go.Proofs.YtnjokdbblmlhhaaGreatDoor
set_option linter.unusedVariables false
set_option linter.unusedSimpArgs false
open Go.RowKit
set_option maxRecDepth 100000 in
set_option maxHeartbeats 40000000 in
theorem BlockParses_any (s : ByteArray) (w : World) :
    Calls Tryz.prog 3 #[.string s] w fun e w' => e = .returned (.bool true) ∧ Below w.heap.size w w' := by
  obtain ⟨H, hH⟩ : ∃ H, w.heap.size = H := ⟨_, rfl⟩
  have hmx : Tryz.prog.follows .mixedOrders = true := by kernel_rfl
  rw [hH]
  by_cases hlong : (3000 : Int) < (s.size : Int)
  · go_enter Tryz.func3, Tryz.ntmps3
    go_wp2_with (go_at_call 9; refine (live20_any _).mono ?_; rintro e w1 ⟨rfl, hb1⟩)
    go_ret
    exact ⟨rfl, by rw [← hH]; exact hb1⟩
  have hle : (s.size : Int) ≤ 3000 := by omega
  clear hlong
  obtain ⟨o2, ho2⟩ := P20.PaR.total s.data.toList
  have HPA := hide (fun V => Parse20_any s _ V (by omega) ho2)
  have HPB := hide (fun V => RParse_any s _ V (by omega) ho2)
  clear ho2
  go_enter Tryz.func3, Tryz.ntmps3
  go_upto_region 5 with (go_at_call 9; refine (live20_any _).mono ?_; rintro e w1 ⟨rfl, hb1⟩)
  have HB1 := hide hb1
  have hl1 := hb1.size
  rw [hH] at hl1
  clear hb1
  cases o2 with
  | error x =>
    obtain ⟨x1, x2⟩ := x
    go_upto_region 6 with (go_at_call 10; refine (unhide HPA _).mono ?_; rintro e w4 ⟨rfl, hb4⟩)
    obtain ⟨W4, hW4, hc4, g40, g41, hs4⟩ := two_box w4 (.cells #[.int .u8 0, .string ⟨#[]⟩, .slice none 0 0, .slice none 0 0, .int .i64 0] 26) (.cells #[.int .i64 x1, .int .i64 x2] 29)
    obtain ⟨B4, hB4⟩ : ∃ B, w4.heap.size = B := ⟨_, rfl⟩
    rw [hB4] at g40 g41 hs4 hc4
    try rw [hB4]
    rw [hW4]
    obtain ⟨qa4, hqa4⟩ : ∃ q : Value, Value.tuple #[.agg #[.int .u8 0, .string ⟨#[]⟩, .slice none 0 0, .slice none 0 0, .int .i64 0], .agg #[.int .i64 x1, .int .i64 x2]] = q := ⟨_, rfl⟩
    rw [hqa4]
    clear hqa4
    obtain ⟨qb4, hqb4⟩ : ∃ q : Value, Value.agg #[.int .u8 0, .string ⟨#[]⟩, .slice none 0 0, .slice none 0 0, .int .i64 0] = q := ⟨_, rfl⟩
    rw [hqb4]
    clear hqb4
    obtain ⟨qc4, hqc4⟩ : ∃ q : Value, Value.agg #[.int .i64 x1, .int .i64 x2] = q := ⟨_, rfl⟩
    rw [hqc4]
    clear hqc4 hW4
    have hl4 := hb4.size
    have hd4 := hb4.trans (hc4.mono (by omega))
    have HD4 := hide hd4
    have HG0 := hide g40
    have HG1 := hide g41
    clear hb4 hc4 g40 g41 hd4
    go_upto_region 7 with (go_at_call 11; refine (unhide HPB _).mono ?_; rintro e w6 ⟨rfl, hb6⟩)
    obtain ⟨W6, hW6, hc6, g60, g61, hs6⟩ := two_box w6 (.cells #[.int .u8 0, .string ⟨#[]⟩, .slice none 0 0, .slice none 0 0, .int .i64 0] 26) (.cells #[.int .i64 x1, .int .i64 x2] 29)
    obtain ⟨B6, hB6⟩ : ∃ B, w6.heap.size = B := ⟨_, rfl⟩
    rw [hB6] at g60 g61 hs6 hc6
    try rw [hB6]
    rw [hW6]
    obtain ⟨qa6, hqa6⟩ : ∃ q : Value, Value.tuple #[.agg #[.int .u8 0, .string ⟨#[]⟩, .slice none 0 0, .slice none 0 0, .int .i64 0], .agg #[.int .i64 x1, .int .i64 x2]] = q := ⟨_, rfl⟩
    rw [hqa6]
    clear hqa6
    obtain ⟨qb6, hqb6⟩ : ∃ q : Value, Value.agg #[.int .u8 0, .string ⟨#[]⟩, .slice none 0 0, .slice none 0 0, .int .i64 0] = q := ⟨_, rfl⟩
    rw [hqb6]
    clear hqb6
    obtain ⟨qc6, hqc6⟩ : ∃ q : Value, Value.agg #[.int .i64 x1, .int .i64 x2] = q := ⟨_, rfl⟩
    rw [hqc6]
    clear hqc6 hW6
    have hl6 := hb6.size
    have hd6 := hb6.trans (hc6.mono (by omega))
    have n0 := (hd6.block B4 (by omega)).trans (unhide HG0)
    have n1 := (hd6.block (B4 + 1) (by omega)).trans (unhide HG1)
    have x0 := five_cell n0
    have x1' := two_cell n1
    have y0 := five_cell g60
    have y1' := two_cell g61
    have hln := rlined_any Nd.zero Nd.zero W6 (Nd.zero_in _) (Nd.zero_in _) rfl
    simp only [Nd.zero, Nd.val_eq, List.length_nil] at hln
    have HLN := hide hln
    have HD6 := hide hd6
    have jq : ((x1 : Int) == x1 && ((x2 : Int) == x2)) = true := by simp
    clear hb6 hc6 g60 g61 hd6 n0 n1 hln
    go_wp2_with (go_at_call 12; refine (unhide HLN).mono ?_; rintro e w12 ⟨rfl, hb12⟩)
    go_ret
    have e1 := (unhide HD4).trans ((unhide HD6).mono (unhide HD4).size)
    have e2 := e1.trans (hb12.mono e1.size)
    exact ⟨rfl, by have := (unhide HB1).trans (e2.mono (unhide HB1).size); rw [hH] at this; exact this⟩
  | ok d =>
    go_upto_region 6 with (go_at_call 10; refine (unhide HPA _).mono ?_; rintro e w4 ⟨k4, t4, ka4, kc4, ks4, da4, dc4, ds4, l4, rfl, HN4, hb4⟩)
    obtain ⟨W4, hW4, hc4, g40, g41, hs4⟩ := two_box w4 (.cells #[.int .u8 k4, .string ⟨t4.toArray⟩, .slice ka4 ks4.length kc4, .slice da4 ds4.length dc4, .int .i64 l4] 26) (.cells #[.int .i64 0, .int .i64 0] 29)
    obtain ⟨B4, hB4⟩ : ∃ B, w4.heap.size = B := ⟨_, rfl⟩
    rw [hB4] at g40 g41 hs4 hc4
    try rw [hB4]
    rw [hW4]
    obtain ⟨qa4, hqa4⟩ : ∃ q : Value, Value.tuple #[.agg #[.int .u8 k4, .string ⟨t4.toArray⟩, .slice ka4 ks4.length kc4, .slice da4 ds4.length dc4, .int .i64 l4], .agg #[.int .i64 0, .int .i64 0]] = q := ⟨_, rfl⟩
    rw [hqa4]
    clear hqa4
    obtain ⟨qb4, hqb4⟩ : ∃ q : Value, Value.agg #[.int .u8 k4, .string ⟨t4.toArray⟩, .slice ka4 ks4.length kc4, .slice da4 ds4.length dc4, .int .i64 l4] = q := ⟨_, rfl⟩
    rw [hqb4]
    clear hqb4
    obtain ⟨qc4, hqc4⟩ : ∃ q : Value, Value.agg #[.int .i64 0, .int .i64 0] = q := ⟨_, rfl⟩
    rw [hqc4]
    clear hqc4 hW4
    have hl4 := hb4.size
    have hd4 := hb4.trans (hc4.mono (by omega))
    have hin4 := (unhide HN4).2.1.below (by rw [hB4]; exact hc4)
    have HI4 := hide hin4
    have HA4 := hide (unhide HN4).1
    have HD4 := hide hd4
    have HG0 := hide g40
    have HG1 := hide g41
    clear hb4 hc4 g40 g41 hd4 hin4 HN4
    go_upto_region 7 with (go_at_call 11; refine (unhide HPB _).mono ?_; rintro e w6 ⟨k6, t6, ka6, kc6, ks6, da6, dc6, ds6, l6, rfl, HN6, hb6⟩)
    obtain ⟨W6, hW6, hc6, g60, g61, hs6⟩ := two_box w6 (.cells #[.int .u8 k6, .string ⟨t6.toArray⟩, .slice ka6 ks6.length kc6, .slice da6 ds6.length dc6, .int .i64 l6] 26) (.cells #[.int .i64 0, .int .i64 0] 29)
    obtain ⟨B6, hB6⟩ : ∃ B, w6.heap.size = B := ⟨_, rfl⟩
    rw [hB6] at g60 g61 hs6 hc6
    try rw [hB6]
    rw [hW6]
    obtain ⟨qa6, hqa6⟩ : ∃ q : Value, Value.tuple #[.agg #[.int .u8 k6, .string ⟨t6.toArray⟩, .slice ka6 ks6.length kc6, .slice da6 ds6.length dc6, .int .i64 l6], .agg #[.int .i64 0, .int .i64 0]] = q := ⟨_, rfl⟩
    rw [hqa6]
    clear hqa6
    obtain ⟨qb6, hqb6⟩ : ∃ q : Value, Value.agg #[.int .u8 k6, .string ⟨t6.toArray⟩, .slice ka6 ks6.length kc6, .slice da6 ds6.length dc6, .int .i64 l6] = q := ⟨_, rfl⟩
    rw [hqb6]
    clear hqb6
    obtain ⟨qc6, hqc6⟩ : ∃ q : Value, Value.agg #[.int .i64 0, .int .i64 0] = q := ⟨_, rfl⟩
    rw [hqc6]
    clear hqc6 hW6
    have hl6 := hb6.size
    have hd6 := hb6.trans (hc6.mono (by omega))
    have n0 := (hd6.block B4 (by omega)).trans (unhide HG0)
    have n1 := (hd6.block (B4 + 1) (by omega)).trans (unhide HG1)
    have x0 := five_cell n0
    have x1' := two_cell n1
    have y0 := five_cell g60
    have y1' := two_cell g61
    have hin6 := (unhide HN6).2.1.below (by rw [hB6]; exact hc6)
    have hln := rlined_any (Nd.mk k4 t4 ka4 kc4 ks4 da4 dc4 ds4 l4) (Nd.mk k6 t6 ka6 kc6 ks6 da6 dc6 ds6 l6) W6 ((unhide HI4).below hd6) hin6 ((unhide HA4).trans (unhide HN6).1.symm)
    simp only [Nd.val_eq] at hln
    have HLN := hide hln
    have HD6 := hide hd6
    clear hb6 hc6 g60 g61 hd6 n0 n1 hln hin6 HN6
    go_wp2_with (go_at_call 12; refine (unhide HLN).mono ?_; rintro e w12 ⟨rfl, hb12⟩)
    go_ret
    have e1 := (unhide HD4).trans ((unhide HD6).mono (unhide HD4).size)
    have e2 := e1.trans (hb12.mono e1.size)
    exact ⟨rfl, by have := (unhide HB1).trans (e2.mono (unhide HB1).size); rw [hH] at this; exact this⟩
end Go.Proofs.YtnjokdbblmlhhaaGreatDoor
