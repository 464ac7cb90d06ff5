/- walk of rescriptref19.Deep: how deep tokens go; walk of tok.Deep; walk of tok.Word: a token's word; Tokens that a call owns may be read.; walk of rescriptlaw19.live; walk of rescriptref19.Same at like tokens -/
import Derived.Test.YtbnheebblicgkaaDoorWR19a
import Derived.Test.YtbnheebblicgkaaDoorWR19b
import Derived.Test.YtbnheebblicgkaaDoorG19b
namespace Go.Proofs.YtbnheebblicgkaaDoor
set_option linter.unusedVariables false
set_option linter.unusedSimpArgs false
open Go.RowKit
/-- the slice v of tokens may be read -/
def RdT (w : World) (B : Nat) (v : Value) (ts : List (Int × ByteArray × Int × Int)) : Prop :=
  ∃ ao cap, v = .slice ao ts.length cap ∧ ∀ i r, ts[i]? = some r → ∃ g o, ao = some ⟨g, o, none⟩ ∧ g < B ∧ w.cell? ⟨g, o + i * 4, none⟩ = some (.int .u8 r.1) ∧ w.cell? ⟨g, o + i * 4 + 1, none⟩ = some (.string r.2.1) ∧ w.cell? ⟨g, o + i * 4 + 2, none⟩ = some (.int .i64 r.2.2.1) ∧ w.cell? ⟨g, o + i * 4 + 3, none⟩ = some (.int .i64 r.2.2.2)
/-- how deep kinds go: 1 opens, 2 closes -/
def deepF : Int → Int → List Int → Int
  | _, most, [] => most
  | now, most, k :: r => deepF (if k = 1 then now + 1 else if k = 2 then now - 1 else now) (max most (if k = 1 then now + 1 else if k = 2 then now - 1 else now)) r
theorem deepF_drop {now most : Int} {ks : List Int} {i : Nat} {k : Int} (h : ks[i]? = some k) : deepF now most (ks.drop i) = deepF (if k = 1 then now + 1 else if k = 2 then now - 1 else now) (max most (if k = 1 then now + 1 else if k = 2 then now - 1 else now)) (ks.drop (i + 1)) := by
  obtain ⟨hi, hk⟩ := List.getElem?_eq_some_iff.1 h
  rw [List.drop_eq_getElem_cons hi, hk, deepF]
set_option maxRecDepth 100000 in
set_option maxHeartbeats 1600000 in
theorem refDeep_any (v : Value) (ts : List (Int × ByteArray × Int × Int)) (w : World) (hv : RdT w w.heap.size v ts) (hlen : ts.length ≤ 1000000) :
    Calls Tryd.prog 27 #[v] w fun e w' => e = .returned (.int .i64 (deepF 0 0 (ts.map (·.1)))) ∧ w' = w := by
  obtain ⟨ao, cap, rfl, hcell⟩ := hv
  have HC := hide hcell
  clear hcell
  obtain ⟨n, hn⟩ : ∃ n, ts.length = n := ⟨_, rfl⟩
  rw [hn] at hlen ⊢
  have HN := hide hn
  clear hn
  go_enter Tryd.func27, Tryd.ntmps27
  go_wp2
  go_loopg [3, 4, 5] n (fun g s3 s4 s5 wx => ∃ (i : Nat) (now most : Int), i + g = n ∧ s5 = .int .i64 i ∧ s3 = .int .i64 now ∧ s4 = .int .i64 most ∧ -(i : Int) ≤ now ∧ now ≤ i ∧ Hid (deepF 0 0 (ts.map (·.1)) = deepF now most ((ts.map (·.1)).drop i)) ∧ w = wx)
  case atStart => exact ⟨0, 0, 0, by omega, by go_num, rfl, rfl, by omega, by omega, hide rfl, rfl⟩
  case round =>
    obtain ⟨i, now, most, hig, rfl, rfl, rfl, hn1, hn2, HP, rfl⟩ := hrel
    cases gk with
    | zero =>
      have e1 : (n : Int) = (i : Int) := by omega
      have hd : (ts.map (·.1)).drop i = [] := List.drop_eq_nil_of_le (by rw [List.length_map, unhide HN]; omega)
      rw [hd] at HP
      clear hd
      go_wp2
      go_ret
      exact ⟨ret_int (by rw [unhide HP]; rfl), rfl⟩
    | succ g' =>
      have hlt : (i : Int) < (n : Int) := by omega
      have hki : IntKind.i64.wrap ((i : Int) + 1) = (i : Int) + 1 := IntWalk.i64_in _ (by omega)
      have hil : i < ts.length := by rw [unhide HN]; omega
      have hgl : ts[i]? = some ts[i] := List.getElem?_eq_getElem hil
      obtain ⟨⟨k, r2, r3, r4⟩, hr⟩ : ∃ r, ts[i] = r := ⟨_, rfl⟩
      rw [hr] at hgl
      obtain ⟨g, o, rfl, hg, hc0, _, _, _⟩ := unhide HC i _ hgl
      have hst := (unhide HP).trans (deepF_drop (k := k) (by rw [List.getElem?_map, hgl]; rfl))
      have HS := hide hst
      have hw1 : IntKind.i64.wrap (now + 1) = now + 1 := IntWalk.i64_in _ (by omega)
      have hw2 : IntKind.i64.wrap (now - 1) = now - 1 := IntWalk.i64_in _ (by omega)
      clear hgl hr hst HP hil
      by_cases h1 : k = 1
      · have j1 : (k == 1) = true := by simpa using h1
        have j2 : (k == 2) = false := by simp; omega
        have hs := unhide HS
        rw [if_pos h1] at hs
        have HS2 := hide hs
        clear h1 hs HS
        go_wp2
        go_roundg g'
        case measure => omega
        case rel => exact ⟨i + 1, now + 1, _, by omega, by go_num, rfl, rfl, by omega, by omega, HS2, rfl⟩
      · have j1 : (k == 1) = false := by simpa using h1
        by_cases h2 : k = 2
        · have j2 : (k == 2) = true := by simpa using h2
          have hs := unhide HS
          rw [if_neg h1, if_pos h2] at hs
          have HS2 := hide hs
          clear h1 h2 hs HS
          go_wp2
          go_roundg g'
          case measure => omega
          case rel => exact ⟨i + 1, now - 1, _, by omega, by go_num, rfl, rfl, by omega, by omega, HS2, rfl⟩
        · have j2 : (k == 2) = false := by simpa using h2
          have hs := unhide HS
          rw [if_neg h1, if_neg h2] at hs
          have HS2 := hide hs
          clear h1 h2 hs HS
          go_wp2
          go_roundg g'
          case measure => omega
          case rel => exact ⟨i + 1, now, _, by omega, by go_num, rfl, rfl, by omega, by omega, HS2, rfl⟩
end Go.Proofs.YtbnheebblicgkaaDoor
namespace Go.Proofs.YtbnheebblicgkaaDoor
set_option linter.unusedVariables false
set_option linter.unusedSimpArgs false
open Go.RowKit
set_option maxRecDepth 100000 in
set_option maxHeartbeats 1600000 in
theorem tokDeep_any (v : Value) (ts : List (Int × ByteArray × Int × Int)) (w : World) (hv : RdT w w.heap.size v ts) (hlen : ts.length ≤ 1000000) :
    Calls Tryd.prog 26 #[v] w fun e w' => e = .returned (.int .i64 (deepF 0 0 (ts.map (·.1)))) ∧ Below w.heap.size w w' := by
  obtain ⟨ao, cap, rfl, hcell⟩ := hv
  have HC := hide hcell
  clear hcell
  obtain ⟨n, hn⟩ : ∃ n, ts.length = n := ⟨_, rfl⟩
  rw [hn] at hlen ⊢
  have HN := hide hn
  clear hn
  go_enter Tryd.func26, Tryd.ntmps26
  go_wp2
  go_step3
  go_wp2
  go_step3
  go_wp2
  go_loopg [3, 4, 9] n (fun g s3 s4 s9 wx => ∃ (i : Nat) (now most : Int), i + g = n ∧ s9 = .int .i64 i ∧ s3 = .int .i64 now ∧ s4 = .int .i64 most ∧ -(i : Int) ≤ now ∧ now ≤ i ∧ now ≤ most ∧ Hid (deepF 0 0 (ts.map (·.1)) = deepF now most ((ts.map (·.1)).drop i)) ∧ Below w.heap.size w wx)
  case atStart => exact ⟨0, 0, 0, by omega, by go_num, rfl, rfl, by omega, by omega, by omega, hide rfl, Below.refl _ _⟩
  case round =>
    obtain ⟨i, now, most, hig, rfl, rfl, rfl, hn1, hn2, hn3, HP, hbl⟩ := hrel
    cases gk with
    | zero =>
      have e1 : (n : Int) = (i : Int) := by omega
      have hd : (ts.map (·.1)).drop i = [] := List.drop_eq_nil_of_le (by rw [List.length_map, unhide HN]; omega)
      rw [hd] at HP
      clear hd
      go_wp2
      go_ret
      exact ⟨ret_int (by rw [unhide HP]; rfl), hbl⟩
    | succ g' =>
      have hlt : (i : Int) < (n : Int) := by omega
      have hki : IntKind.i64.wrap ((i : Int) + 1) = (i : Int) + 1 := IntWalk.i64_in _ (by omega)
      have hil : i < ts.length := by rw [unhide HN]; omega
      have hgl : ts[i]? = some ts[i] := List.getElem?_eq_getElem hil
      obtain ⟨⟨k, r2, r3, r4⟩, hr⟩ : ∃ r, ts[i] = r := ⟨_, rfl⟩
      rw [hr] at hgl
      obtain ⟨g, o, rfl, hg, hc0, hc1, hc2, hc3⟩ := unhide HC i _ hgl
      have x0 := (cell_below hbl hg _).trans hc0
      have x1 := (cell_below hbl hg _).trans hc1
      have x2 := (cell_below hbl hg _).trans hc2
      have x3 := (cell_below hbl hg _).trans hc3
      have hbl2 := hbl.alloc hbl.size (.cells #[.int .u8 k, .string r2, .int .i64 r3, .int .i64 r4] 54)
      obtain ⟨⟨b0, _⟩, ⟨b1, _⟩, ⟨b2, _⟩, ⟨b3, _⟩⟩ := four_cell (World.alloc_heap_new wr (.cells #[.int .u8 k, .string r2, .int .i64 r3, .int .i64 r4] 54))
      clear hc0 hc1 hc2 hc3
      have hst := (unhide HP).trans (deepF_drop (k := k) (by rw [List.getElem?_map, hgl]; rfl))
      have HS := hide hst
      have hw1 : IntKind.i64.wrap (now + 1) = now + 1 := IntWalk.i64_in _ (by omega)
      have hw2 : IntKind.i64.wrap (now - 1) = now - 1 := IntWalk.i64_in _ (by omega)
      clear hgl hr hst HP hil
      by_cases h1 : k = 1
      · have j1 : (k == 1) = true := by simpa using h1
        have j2 : (k == 2) = false := by simp; omega
        have hs := unhide HS
        rw [if_pos h1] at hs
        have HS2 := hide hs
        clear h1 hs HS
        go_wp2
        go_roundg g'
        case measure => omega
        case rel => exact ⟨i + 1, now + 1, _, by omega, by go_num, rfl, rfl, by omega, by omega, by omega, HS2, hbl2⟩
      · have j1 : (k == 1) = false := by simpa using h1
        by_cases h2 : k = 2
        · have j2 : (k == 2) = true := by simpa using h2
          have hs := unhide HS
          rw [if_neg h1, if_pos h2] at hs
          have HS2 := hide hs
          clear h1 h2 hs HS
          go_wp2
          go_roundg g'
          case measure => omega
          case rel => exact ⟨i + 1, now - 1, _, by omega, by go_num, rfl, rfl, by omega, by omega, by omega, HS2, hbl2⟩
        · have j2 : (k == 2) = false := by simpa using h2
          have hs := unhide HS
          rw [if_neg h1, if_neg h2, Int.max_eq_left hn3] at hs
          have HS2 := hide hs
          clear h1 h2 hs HS
          go_wp2
          go_roundg g'
          case measure => omega
          case rel => exact ⟨i + 1, now, _, by omega, by go_num, rfl, rfl, by omega, by omega, by omega, HS2, hbl2⟩
end Go.Proofs.YtbnheebblicgkaaDoor
namespace Go.Proofs.YtbnheebblicgkaaDoor
set_option linter.unusedVariables false
set_option linter.unusedSimpArgs false
open Go.RowKit
/-- the words of kinds: "", open, close, dash, key, word, noseq, nomap -/
def wordOf (k : Nat) : List UInt8 :=
  if k = 1 then [111, 112, 101, 110] else if k = 2 then [99, 108, 111, 115, 101] else if k = 3 then [100, 97, 115, 104] else if k = 4 then [107, 101, 121] else if k = 5 then [119, 111, 114, 100]
  else if k = 6 then [110, 111, 115, 101, 113] else if k = 7 then [110, 111, 109, 97, 112] else []
set_option maxRecDepth 100000 in
set_option maxHeartbeats 1600000 in
theorem Word_any (k : Nat) (hk : k < 256) (t : ByteArray) (n col : Int) (w : World) :
    Calls Tryd.prog 25 #[.agg #[.int .u8 k, .string t, .int .i64 n, .int .i64 col]] w fun e w' => e = .returned (.string ⟨(wordOf k).toArray⟩) ∧ Below w.heap.size w w' := by
  by_cases h8 : k < 8
  · have hc : k = 0 ∨ k = 1 ∨ k = 2 ∨ k = 3 ∨ k = 4 ∨ k = 5 ∨ k = 6 ∨ k = 7 := by omega
    clear h8 hk
    rcases hc with rfl | rfl | rfl | rfl | rfl | rfl | rfl | rfl
    all_goals
      go_enter Tryd.func25, Tryd.ntmps25
      go_wp2
      go_ret
      exact ⟨rfl, ((Below.refl _ w).alloc (Nat.le_refl _) _).alloc (by simp) _⟩
  · have h9 : (8 : Int) ≤ (k : Int) := by omega
    have hw : wordOf k = [] := by
      unfold wordOf
      rw [if_neg (by omega), if_neg (by omega), if_neg (by omega), if_neg (by omega), if_neg (by omega), if_neg (by omega), if_neg (by omega)]
    rw [hw]
    clear h8 hw
    go_enter Tryd.func25, Tryd.ntmps25
    go_wp2
    go_ret
    exact ⟨rfl, ((Below.refl _ w).alloc (Nat.le_refl _) _).alloc (by simp) _⟩
end Go.Proofs.YtbnheebblicgkaaDoor
namespace Go.Proofs.YtbnheebblicgkaaDoor
set_option linter.unusedVariables false
set_option linter.unusedSimpArgs false
open Go.RowKit
/-- a token as it is read -/
def castT (t : Tk) : Int × ByteArray × Int × Int := (t.1, ⟨t.2.1.toArray⟩, t.2.2.1, t.2.2.2)
theorem tksCells_get : ∀ (ts : List Tk) (i : Nat) (t : Tk), ts[i]? = some t → (tksCells ts)[i * 4]? = some (.int .u8 t.1) ∧ (tksCells ts)[i * 4 + 1]? = some (bsOf t.2.1) ∧ (tksCells ts)[i * 4 + 2]? = some (.int .i64 t.2.2.1) ∧ (tksCells ts)[i * 4 + 3]? = some (.int .i64 t.2.2.2)
  | [], i, t, h => by simp at h
  | a :: ts, 0, t, h => by
    simp at h
    subst h
    exact ⟨rfl, rfl, rfl, rfl⟩
  | a :: ts, i + 1, t, h => by
    have ih := tksCells_get ts i t (by simpa using h)
    have e : tksCells (a :: ts) = tkCells a ++ tksCells ts := rfl
    have l4 : (tkCells a).length = 4 := rfl
    rw [e, List.getElem?_append_right (by omega), List.getElem?_append_right (by omega), List.getElem?_append_right (by omega), List.getElem?_append_right (by omega), l4]
    rw [show (i + 1) * 4 - 4 = i * 4 from by omega, show (i + 1) * 4 + 1 - 4 = i * 4 + 1 from by omega, show (i + 1) * 4 + 2 - 4 = i * 4 + 2 from by omega, show (i + 1) * 4 + 3 - 4 = i * 4 + 3 from by omega]
    exact ih
theorem rdt_of_own {w : World} {B : Nat} {v : Value} {ts : List Tk} (h : OwnT w B v ts) : RdT w w.heap.size v (ts.map castT) := by
  unfold OwnT at h
  rcases Nat.eq_zero_or_pos ts.length with h0 | h0
  · have hnil := List.eq_nil_of_length_eq_zero h0
    subst hnil
    rcases h.2 with ⟨hv, _⟩ | ⟨g, cap, cur, hv, _⟩
    · exact ⟨_, _, hv, fun i r hr => by simp at hr⟩
    · exact ⟨_, _, hv, fun i r hr => by simp at hr⟩
  · obtain ⟨g, cap, hv, hb, hlt⟩ := h.form h0
    subst hv
    refine ⟨_, _, by rw [List.length_map], fun i r hr => ⟨g, 0, rfl, hlt, ?_⟩⟩
    rw [List.getElem?_map, Option.map_eq_some_iff] at hr
    obtain ⟨a, ha, rfl⟩ := hr
    obtain ⟨c0, c1, c2, c3⟩ := tksCells_get ts i a ha
    have hi : i < ts.length := (List.getElem?_eq_some_iff.1 ha).1
    rw [Nat.zero_add, h.cellAt _ (by omega), h.cellAt _ (by omega), h.cellAt _ (by omega), h.cellAt _ (by omega)]
    exact ⟨c0, c1, c2, c3⟩
theorem RdT.below {w w' : World} {B : Nat} {v : Value} {ts : List (Int × ByteArray × Int × Int)} (h : RdT w B v ts) (hb : Below B w w') {B' : Nat} (hB : B ≤ B') : RdT w' B' v ts := by
  obtain ⟨ao, cap, hv, hc⟩ := h
  refine ⟨ao, cap, hv, fun i r hr => ?_⟩
  obtain ⟨g, o, h1, h2, h3, h4, h5, h6⟩ := hc i r hr
  exact ⟨g, o, h1, by omega, (cell_below hb h2 _).trans h3, (cell_below hb h2 _).trans h4, (cell_below hb h2 _).trans h5, (cell_below hb h2 _).trans h6⟩
end Go.Proofs.YtbnheebblicgkaaDoor
namespace Go.Proofs.YtbnheebblicgkaaDoor
set_option linter.unusedVariables false
set_option linter.unusedSimpArgs false
open Go.RowKit
theorem tokAll_any (s : ByteArray) (w : World) (hs : s.size ≤ 100000) :
    Calls Tryd.prog 20 #[.string s] w fun e w' => ∃ v, e = .returned (.tuple #[v, faultV (P19.all s.data.toList).2]) ∧ OwnT w' w.heap.size v (P19.all s.data.toList).1 ∧ Below w.heap.size w w' := by
  unfold P19.all
  by_cases hf : (check17 s.data.toList).1 = 0
  · rw [if_neg (by simpa using hf)]
    exact tokAll_good s w hs hf
  · rw [if_pos hf]
    exact (tokAll_bad s w hs hf).mono fun e w' ⟨h1, h2⟩ => ⟨_, h1, World.ownsRow_nil _ _ _ _, h2⟩
theorem tokLive1 : P19.all [45, 32, 97, 58, 32, 49] = ([(3, [], 1, 0), (1, [], 1, 2), (4, [97], 1, 2), (5, [49], 1, 5), (2, [], 1, 0)], 0, 0) := by decide +kernel
theorem tokLive2 : (P19.all [97, 58, 32, 49, 10, 32, 98]).2 = (0, 0) := by decide +kernel
theorem tokLive3 : (P19.all [97, 58, 10, 32, 32, 98, 58, 32, 49, 10, 32, 99, 58, 32, 50]).2 = (3, 3) := by decide +kernel
theorem tokLive4 : (P19.all [32, 97]).2 = (3, 1) := by decide +kernel
theorem tokLive5 : P19.toks 3 2 [107, 58, 32, 91, 93] = ([(4, [107], 3, 2), (6, [], 3, 5)], 0) := by decide +kernel
theorem below_own {w w' : World} {B : Nat} {v : Value} {ts : List Tk} (h : OwnT w B v ts) (hb : Below w.heap.size w w') : OwnT w' B v ts := owns_below h hb
theorem own_at {W : World} {B g n cap : Nat} {ts : List Tk} (h : OwnT W B (.slice (some ⟨g, 0, none⟩) n cap) ts) {i : Nat} {t : Tk} (hi : ts[i]? = some t) :
    W.cell? ⟨g, i * 4, none⟩ = some (.int .u8 t.1) ∧ W.cell? ⟨g, i * 4 + 1, none⟩ = some (bsOf t.2.1) ∧ W.cell? ⟨g, i * 4 + 2, none⟩ = some (.int .i64 t.2.2.1) ∧ W.cell? ⟨g, i * 4 + 3, none⟩ = some (.int .i64 t.2.2.2) := by
  obtain ⟨g', cap', hv, _, h0, h1, h2, h3⟩ := own_drop h hi
  injection hv with hv _ _
  injection hv with hv
  injection hv with hv
  subst hv
  exact ⟨h0, h1, h2, h3⟩
set_option maxRecDepth 100000 in
set_option maxHeartbeats 4000000 in
theorem tokLive_any (w : World) :
    Calls Tryd.prog 19 #[] w fun e w' => e = .returned (.bool true) ∧ Below w.heap.size w w' := by
  have HA := hide (fun W => tokAll_any ⟨#[45, 32, 97, 58, 32, 49]⟩ W (by decide))
  have HB := hide (fun W => tokAll_any ⟨#[97, 58, 32, 49, 10, 32, 98]⟩ W (by decide))
  have HC := hide (fun W => tokAll_any ⟨#[97, 58, 10, 32, 32, 98, 58, 32, 49, 10, 32, 99, 58, 32, 50]⟩ W (by decide))
  have HD := hide (fun W => tokAll_any ⟨#[32, 97]⟩ W (by decide))
  have HL := hide (fun W => tokLine_any 3 2 ⟨#[107, 58, 32, 91, 93]⟩ W (by decide) (by decide) (by decide))
  simp only [show (⟨#[45, 32, 97, 58, 32, 49]⟩ : ByteArray).data.toList = [45, 32, 97, 58, 32, 49] from rfl, tokLive1] at HA
  simp only [show (⟨#[97, 58, 32, 49, 10, 32, 98]⟩ : ByteArray).data.toList = [97, 58, 32, 49, 10, 32, 98] from rfl, tokLive2] at HB
  simp only [show (⟨#[97, 58, 10, 32, 32, 98, 58, 32, 49, 10, 32, 99, 58, 32, 50]⟩ : ByteArray).data.toList = [97, 58, 10, 32, 32, 98, 58, 32, 49, 10, 32, 99, 58, 32, 50] from rfl, tokLive3] at HC
  simp only [show (⟨#[32, 97]⟩ : ByteArray).data.toList = [32, 97] from rfl, tokLive4] at HD
  simp only [show (⟨#[107, 58, 32, 91, 93]⟩ : ByteArray).data.toList = [107, 58, 32, 91, 93] from rfl, tokLive5] at HL
  unfold faultV at HA HB HC HD
  go_enter Tryd.func19, Tryd.ntmps19
  go_upto_region 2 with (go_at_call 20; refine (unhide HA _).mono ?_; rintro e W1 ⟨v1, rfl, ho1, hb1⟩)
  obtain ⟨g1, c1, hv1, _, hg1⟩ := World.ownsRow.form ho1 (by simp)
  subst hv1
  obtain ⟨n1, hn1⟩ : ∃ n, W1.heap.size = n := ⟨_, rfl⟩
  have f1 := World.alloc_heap_new W1 (.cells #[.int .i64 0, .int .i64 0] 26)
  rw [hn1] at f1 ⊢
  have o1 := World.ownsRow.alloc ho1 (.cells #[.int .i64 0, .int .i64 0] 26)
  have b1 : Below w.heap.size w (W1.alloc (.cells #[.int .i64 0, .int .i64 0] 26)) := below_alloc' hb1 hb1.size _
  have z1 : (W1.alloc (.cells #[.int .i64 0, .int .i64 0] 26)).heap.size = n1 + 1 := by rw [World.size_alloc, hn1]
  generalize W1.alloc (.cells #[.int .i64 0, .int .i64 0] 26) = X1 at f1 o1 b1 z1 ⊢
  clear ho1 hb1 hn1
  go_upto_region 3 with (go_at_call 20; refine (unhide HB _).mono ?_; rintro e W2 ⟨v2, rfl, _, hb2⟩)
  have e1 := below_own o1 hb2
  have d1 := (hb2.block n1 (by omega)).trans f1
  have k2 : Below w.heap.size w W2 := b1.trans (hb2.mono b1.size)
  obtain ⟨n2, hn2⟩ : ∃ n, W2.heap.size = n := ⟨_, rfl⟩
  have f2 := World.alloc_heap_new W2 (.cells #[.int .i64 0, .int .i64 0] 26)
  have l12 : n1 < W2.heap.size := (Array.getElem?_eq_some_iff.1 d1).1
  have d1' := (Below.heap_alloc W2 (.cells #[.int .i64 0, .int .i64 0] 26) n1 l12).trans d1
  have o2 := World.ownsRow.alloc e1 (.cells #[.int .i64 0, .int .i64 0] 26)
  have b2 : Below w.heap.size w (W2.alloc (.cells #[.int .i64 0, .int .i64 0] 26)) := below_alloc' k2 k2.size _
  have z2 : (W2.alloc (.cells #[.int .i64 0, .int .i64 0] 26)).heap.size = n2 + 1 := by rw [World.size_alloc, hn2]
  rw [hn2] at f2 l12 ⊢
  generalize W2.alloc (.cells #[.int .i64 0, .int .i64 0] 26) = X2 at f2 d1' o2 b2 z2 ⊢
  clear f1 o1 b1 z1 e1 d1 k2 hb2 hn2
  go_upto_region 4 with (go_at_call 20; refine (unhide HC _).mono ?_; rintro e W3 ⟨v3, rfl, _, hb3⟩)
  have e1 := below_own o2 hb3
  have d1 := (hb3.block n1 (by omega)).trans d1'
  have d2 := (hb3.block n2 (by omega)).trans f2
  have k3 : Below w.heap.size w W3 := b2.trans (hb3.mono b2.size)
  obtain ⟨n3, hn3⟩ : ∃ n, W3.heap.size = n := ⟨_, rfl⟩
  have f3 := World.alloc_heap_new W3 (.cells #[.int .i64 3, .int .i64 3] 26)
  have l23 : n2 < W3.heap.size := (Array.getElem?_eq_some_iff.1 d2).1
  have p1 := (Below.heap_alloc W3 (.cells #[.int .i64 3, .int .i64 3] 26) n1 (by omega)).trans d1
  have p2 := (Below.heap_alloc W3 (.cells #[.int .i64 3, .int .i64 3] 26) n2 l23).trans d2
  have o3 := World.ownsRow.alloc e1 (.cells #[.int .i64 3, .int .i64 3] 26)
  have b3 : Below w.heap.size w (W3.alloc (.cells #[.int .i64 3, .int .i64 3] 26)) := below_alloc' k3 k3.size _
  have z3 : (W3.alloc (.cells #[.int .i64 3, .int .i64 3] 26)).heap.size = n3 + 1 := by rw [World.size_alloc, hn3]
  rw [hn3] at f3 l23 ⊢
  generalize W3.alloc (.cells #[.int .i64 3, .int .i64 3] 26) = X3 at f3 p1 p2 o3 b3 z3 ⊢
  clear f2 d1' o2 b2 z2 e1 d1 d2 k3 hb3 hn3
  go_upto_region 5 with (go_at_call 20; refine (unhide HD _).mono ?_; rintro e W4 ⟨v4, rfl, _, hb4⟩)
  have e1 := below_own o3 hb4
  have d1 := (hb4.block n1 (by omega)).trans p1
  have d2 := (hb4.block n2 (by omega)).trans p2
  have d3 := (hb4.block n3 (by omega)).trans f3
  have k4 : Below w.heap.size w W4 := b3.trans (hb4.mono b3.size)
  obtain ⟨n4, hn4⟩ : ∃ n, W4.heap.size = n := ⟨_, rfl⟩
  have f4 := World.alloc_heap_new W4 (.cells #[.int .i64 3, .int .i64 1] 26)
  have l34 : n3 < W4.heap.size := (Array.getElem?_eq_some_iff.1 d3).1
  have q1 := (Below.heap_alloc W4 (.cells #[.int .i64 3, .int .i64 1] 26) n1 (by omega)).trans d1
  have q2 := (Below.heap_alloc W4 (.cells #[.int .i64 3, .int .i64 1] 26) n2 (by omega)).trans d2
  have q3 := (Below.heap_alloc W4 (.cells #[.int .i64 3, .int .i64 1] 26) n3 l34).trans d3
  have o4 := World.ownsRow.alloc e1 (.cells #[.int .i64 3, .int .i64 1] 26)
  have b4 : Below w.heap.size w (W4.alloc (.cells #[.int .i64 3, .int .i64 1] 26)) := below_alloc' k4 k4.size _
  have z4 : (W4.alloc (.cells #[.int .i64 3, .int .i64 1] 26)).heap.size = n4 + 1 := by rw [World.size_alloc, hn4]
  rw [hn4] at f4 l34 ⊢
  generalize W4.alloc (.cells #[.int .i64 3, .int .i64 1] 26) = X4 at f4 q1 q2 q3 o4 b4 z4 ⊢
  clear f3 p1 p2 o3 b3 z3 e1 d1 d2 d3 k4 hb4 hn4
  have HDEEP : deepF 0 0 [3, 1, 4, 5, 2] = 1 := by decide
  have HO4 := hide o4
  have HQ1 := hide q1
  have HQ2 := hide q2
  have HQ3 := hide q3
  have HF4 := hide f4
  clear o4 q1 q2 q3 f4
  go_wp2_with (first
    | (go_at_call 23; refine (unhide HL _).mono ?_; rintro e W5 ⟨v5, rfl, ho5, hb5⟩; obtain ⟨g5, cc5, hv5, _, _⟩ := World.ownsRow.form ho5 (by simp); subst hv5; have e1 := below_own (unhide HO4) hb5; have y1 := (hb5.block n1 (by omega)).trans (unhide HQ1); have y2 := (hb5.block n2 (by omega)).trans (unhide HQ2); have y3 := (hb5.block n3 (by omega)).trans (unhide HQ3); have y4 := (hb5.block n4 (by omega)).trans (unhide HF4); have b5 : Below w.heap.size w W5 := b4.trans (hb5.mono b4.size); have x1 := (two_cell0 y1).1; have x2 := (two_cell1 y1).1; have x3 := (two_cell0 y2).1; have x4 := (two_cell1 y2).1; have x5 := (two_cell0 y3).1; have x6 := (two_cell1 y3).1; have x7 := (two_cell0 y4).1; have x8 := (two_cell1 y4).1; have t0 := own_at e1 (i := 0) rfl; have t1 := own_at e1 (i := 1) rfl; have t2 := own_at e1 (i := 2) rfl; have t3 := own_at e1 (i := 3) rfl; have t4 := own_at e1 (i := 4) rfl; have t5 := own_at ho5 (i := 1) rfl; simp only [Nat.reduceMul, Nat.reduceAdd, bsOf] at t0 t1 t2 t3 t4 t5; obtain ⟨a0, a1, a2, a3⟩ := t0; obtain ⟨a4, a5, a6, a7⟩ := t1; obtain ⟨a8, a9, a10, a11⟩ := t2; obtain ⟨a12, a13, a14, a15⟩ := t3; obtain ⟨a16, a17, a18, a19⟩ := t4; obtain ⟨a20, a21, a22, a23⟩ := t5; have E1 := hide e1; have B5 := hide b5; clear y1 y2 y3 y4 hb5 e1 b5 ho5)
    | (go_at_call 26; refine (tokDeep_any _ _ _ (rdt_of_own (unhide E1)) (by decide)).mono ?_; rintro e W6 ⟨rfl, hb6⟩; have e6 := below_own (unhide E1) hb6; have t0 := own_at e6 (i := 0) rfl; simp only [Nat.reduceMul, Nat.reduceAdd, bsOf] at t0; obtain ⟨s0, s1, s2, s3⟩ := t0; have B6 := hide ((unhide B5).trans (hb6.mono (unhide B5).size)); clear e6 hb6; rw [show deepF 0 0 ((([(3, [], 1, 0), (1, [], 1, 2), (4, [97], 1, 2), (5, [49], 1, 5), (2, [], 1, 0)] : List Tk).map castT).map (·.1)) = 1 from by decide])
    | (go_at_call 25; refine (Word_any 3 (by decide) _ _ _ _).mono ?_; rintro e W7 ⟨rfl, hb7⟩; have B7 := hide ((unhide B6).trans (hb7.mono (unhide B6).size)); clear hb7; rw [show (⟨(wordOf 3).toArray⟩ : ByteArray) = ⟨#[100, 97, 115, 104]⟩ from rfl])
    | fail)
  go_ret
  exact ⟨rfl, unhide B7⟩
end Go.Proofs.YtbnheebblicgkaaDoor
namespace Go.Proofs.YtbnheebblicgkaaDoor
set_option linter.unusedVariables false
set_option linter.unusedSimpArgs false
open Go.RowKit
set_option maxRecDepth 100000 in
set_option maxHeartbeats 1600000 in
theorem Same_any (a b : Value) (ts : List (Int × ByteArray × Int × Int)) (w : World) (ha : RdT w w.heap.size a ts) (hb : RdT w w.heap.size b ts) (hlen : ts.length ≤ 100000000) :
    Calls Tryd.prog 22 #[a, b] w fun e w' => e = .returned (.bool true) ∧ ∃ n, w' = w.drewN n := by
  obtain ⟨ao, cap, rfl, hca⟩ := ha
  obtain ⟨bo, cap2, rfl, hcb⟩ := hb
  have HCA := hide hca
  have HCB := hide hcb
  clear hca hcb
  obtain ⟨n, hn⟩ : ∃ n, ts.length = n := ⟨_, rfl⟩
  rw [hn] at hlen ⊢
  have HN := hide hn
  clear hn
  go_enter Tryd.func22, Tryd.ntmps22
  go_wp2
  go_loopg [5] n (fun g s5 wx => ∃ i m : Nat, i + g = n ∧ s5 = .int .i64 i ∧ w.drewN m = wx)
  case atStart => exact ⟨0, 0, by omega, by go_num, rfl⟩
  case round =>
    obtain ⟨i, m, hig, rfl, rfl⟩ := hrel
    cases gk with
    | zero =>
      have e1 : (n : Int) = (i : Int) := by omega
      go_wp2
      go_ret
      exact ⟨rfl, m, rfl⟩
    | succ g' =>
      have hlt : (i : Int) < (n : Int) := by omega
      have hki : IntKind.i64.wrap ((i : Int) + 1) = (i : Int) + 1 := IntWalk.i64_in _ (by omega)
      have hil : i < ts.length := by rw [unhide HN]; omega
      have hgl : ts[i]? = some ts[i] := List.getElem?_eq_getElem hil
      obtain ⟨⟨r1, r2, r3, r4⟩, hr⟩ : ∃ r, ts[i] = r := ⟨_, rfl⟩
      rw [hr] at hgl
      obtain ⟨g, o, rfl, hg, hc0, hc1, hc2, hc3⟩ := unhide HCA i _ hgl
      obtain ⟨g2, o2, rfl, hg2, hd0, hd1, hd2, hd3⟩ := unhide HCB i _ hgl
      clear hgl hr
      go_wp2
      go_region
      go_wp2
      go_roundg g'
      case measure => omega
      case rel => exact ⟨i + 1, m + 1, by omega, by go_num, rfl⟩
end Go.Proofs.YtbnheebblicgkaaDoor
