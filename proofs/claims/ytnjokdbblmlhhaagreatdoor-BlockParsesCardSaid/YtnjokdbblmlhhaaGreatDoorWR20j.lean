/- The reference's Value and within, at any height; its Parse. -/
import Derived.Test.YtnjokdbblmlhhaaGreatDoorWR20q
import Derived.Test.YtnjokdbblmlhhaaGreatDoorWR20k
import Derived.Test.YtnjokdbblmlhhaaGreatDoorWR20p
namespace Go.Proofs.YtnjokdbblmlhhaaGreatDoor
set_option linter.unusedVariables false
set_option linter.unusedSimpArgs false
open Go.RowKit
attribute [local go_sem] tokField1 tokField2
set_option maxRecDepth 100000 in
set_option maxHeartbeats 8000000 in
theorem rvalue_deep (last : Int) (f : Nat) (hV : ∀ g, g ≤ f → RValC last g) (hWi : ∀ g, g ≤ f → RWiC last g) (lv : Nat) (ts : List Tk) (B rb : Nat) (all : List Tk) (o : P20.Out P20.T) (w : World) (h : RPr w B rb all ts) (hB : B ≤ w.heap.size) (hla : lastLn all = last) (hlv : lv ≤ 17) (hd : P20.Val last (f + 1) lv ts o) (hlv6 : 16 < lv) :
    Calls Tryz.prog 35 #[.pointer (some ⟨rb, 0, none⟩), .int .i64 lv] w (RValPost w B rb all o) := by
  obtain ⟨W0, hW0, hb0, g0, g1, hs0⟩ := two_pair w (.cells #[.int .u8 0, .string ⟨#[]⟩, .slice none 0 0, .slice none 0 0, .int .i64 0] 26) (.cells #[.int .i64 0, .int .i64 0] 29)
  obtain ⟨H, hH⟩ : ∃ H, w.heap.size = H := ⟨_, rfl⟩
  have hR0 : RPr W0 B rb all ts := h.keep hB hb0
  have hG0 := grown_of_below hb0 (some rb)
  have hrb := hR0.lt
  rw [hH] at g0 g1 hs0 hb0
  obtain ⟨⟨r0, s0⟩, ⟨r1, s1⟩, ⟨r2, s2⟩, ⟨r3, s3⟩, ⟨r4, s4⟩⟩ := five_cell g0
  obtain ⟨⟨t0, u0⟩, ⟨t1, u1⟩⟩ := two_cell g1
  have HW0 := hide hW0
  have HG0 := hide g0
  have HG1 := hide g1
  have HLA := hide hla
  have HH := hide hH
  have HD := hide hd
  have HV := hide hV
  have HWI := hide hWi
  have hmx := hmx0
  clear hW0 g0 g1 h hla hb0 hd hV hWi
  have hd := unhide HD
  have ho : o = .bad 11 (P20.hereL last ts) := by
    cases hd with
    | deep h => rfl
    | _ => omega
  subst ho
  have hE := rfault_any B rb all ts 11 W0 hR0
  rw [unhide HLA] at hE
  have HE := hide hE
  have jl : (16 : Int) < (lv : Int) := by omega
  clear hd HD hE hR0
  go_enter Tryz.func35, Tryz.ntmps35
  go_upto_region 1 with fail
  try rw [unhide HH]
  rw [unhide HW0]
  go_wp2_with (go_at_call 36; refine (unhide HE).mono ?_; rintro e w5 ⟨rfl, hb5⟩; have k5 := (hb5.block H (by omega)).trans (unhide HG0); have m5 := (hb5.block (H + 1) (by omega)).trans (unhide HG1); obtain ⟨⟨r0, s0⟩, ⟨r1, s1⟩, ⟨r2, s2⟩, ⟨r3, s3⟩, ⟨r4, s4⟩⟩ := five_cell k5; obtain ⟨⟨t0, u0⟩, ⟨t1, u1⟩⟩ := two_cell m5; have HK5 := hide k5; have HM5 := hide m5; clear k5 m5)
  have hT := (two_b (unhide HK5) (unhide HM5) (.int .u8 0) (.string ⟨#[]⟩) (.slice none 0 0) (.slice none 0 0) (.int .i64 0) (.int .i64 11) (.int .i64 (P20.hereL last ts))).undrew
  exact bodyPost_ret (two_ret rfl _ rfl rfl hT.h0 hT.h1) rfl ⟨0, [], none, 0, 0, none, 0, 0, 0, rfl, hide (two_grown hT (grown_trans1 hG0 (grown_of_below hb5 _)) (by have := unhide HH; omega))⟩

theorem rvalue_step (last : Int) (f : Nat) (hV : ∀ g, g ≤ f → RValC last g) (hWi : ∀ g, g ≤ f → RWiC last g) : RValC last (f + 1) := by
  intro lv ts B rb all o w h hB hla hlv hd
  by_cases h6 : 16 < lv
  · exact rvalue_deep last f hV hWi lv ts B rb all o w h hB hla hlv hd h6
  by_cases h3 : P20.kindOf ts = 3
  · exact rvalue_seq last f hV hWi lv ts B rb all o w h hB hla hlv hd h3 h6
  by_cases h4 : P20.kindOf ts = 4
  · exact rvalue_keys last f hV hWi lv ts B rb all o w h hB hla hlv hd h4 h6
  · exact rvalue_plain last f hV hWi lv ts B rb all o w h hB hla hlv hd ⟨h3, h4⟩
theorem rreads_all (last : Int) : ∀ F : Nat, RValC last F ∧ RWiC last F := by
  intro F
  induction F using Nat.strongRecOn with
  | ind F ih =>
    cases F with
    | zero => exact ⟨fun _ _ _ _ _ _ _ _ _ _ _ h => (by cases h), fun _ _ _ _ _ _ _ _ _ _ _ _ h => (by cases h)⟩
    | succ f => exact ⟨rvalue_step last f (fun g hg => (ih g (by omega)).1) (fun g hg => (ih g (by omega)).2), rwithin_step last f (ih f (by omega)).1⟩
theorem RParse_any (s : ByteArray) (o : Except (Int × Int) P20.T) (w : World) (hs : s.size ≤ 3000) (ho : P20.PaR s.data.toList o) :
    Calls Tryz.prog 11 #[.string s] w (ReadPost w o) := RParse_of (fun last f => (rreads_all last f).1) s o w hs ho
end Go.Proofs.YtnjokdbblmlhhaaGreatDoor
