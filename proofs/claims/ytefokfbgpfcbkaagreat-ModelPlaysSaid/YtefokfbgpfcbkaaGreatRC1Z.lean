/- Lemmas of this claim (a part of its texts, kept as far as the claim reaches them). -/
import Derived.Test.YtefokfbgpfcbkaaGreatM33sZ
import Derived.Test.YtefokfbgpfcbkaaGreatGR18Z
import Derived.Test.YtefokfbgpfcbkaaGreatN21xZ
import Derived.Test.YtefokfbgpfcbkaaGreatN26xZ
namespace Go.Proofs.YtefokfbgpfcbkaaGreat
set_option linter.unusedVariables false
set_option linter.unusedSimpArgs false
open Go.RowKit
theorem idx_first : ∀ {ns : List (List UInt8)} {x : List UInt8} {i : Nat}, ns[i]? = some x → x ∉ ns.take i → P28.idx ns x = some i
  | [], x, i, h, _ => by simp at h
  | n :: ns, x, 0, h, _ => by
    simp only [List.getElem?_cons_zero, Option.some.injEq] at h
    simp [P28.idx, h]
  | n :: ns, x, i + 1, h, h0 => by
    rw [List.take_succ_cons, List.mem_cons, not_or] at h0
    unfold P28.idx
    rw [if_neg (fun e => h0.1 e.symm), idx_first (by simpa using h) h0.2]
    rfl
set_option maxRecDepth 100000 in
set_option maxHeartbeats 2000000 in
theorem RIndex_any (d : PDef) (x : List UInt8) (w : World) (hin : d.In w) (hl : d.steps.length ≤ 1000000) : Calls Tryz.prog 118 #[d.val, .string ⟨x.toArray⟩] w fun e w' => e = .returned (.int .i64 (toV (P28.idx (d.steps.map PSt.name) x))) ∧ Below w.heap.size w w' := by
  obtain ⟨H, hH⟩ : ∃ H, w.heap.size = H := ⟨_, rfl⟩
  rw [hH]
  obtain ⟨W1, hW1, hb1, g0, hs1⟩ := new1 w (defO d) H hH
  have hin1 : d.In W1 := hin.below (by rw [hH]; exact hb1)
  obtain ⟨nm, tx, sa, sc, ss⟩ := d
  obtain ⟨N, hN⟩ : ∃ N, ss.length = N := ⟨_, rfl⟩
  unfold defO at hW1 g0
  unfold PDef.val
  simp only [hN] at hW1 g0 hl ⊢
  obtain ⟨RES, hRES⟩ : ∃ R, toV (P28.idx (ss.map PSt.name) x) = R := ⟨_, rfl⟩
  rw [hRES]
  obtain ⟨⟨k0, _⟩, ⟨k1, _⟩, ⟨k2, _⟩⟩ := cell3 g0
  have HIN := hide hin1
  have HW1 := hide hW1
  have HB1 := hide hb1
  have HR := hide hRES
  have HN := hide hN
  clear hin1 hW1 hb1 hRES hN g0 hin
  go_enter Tryz.func118, Tryz.ntmps118
  go_upto_region 1 with fail
  try rw [hH]
  rw [unhide HW1]
  go_wp2
  go_loopg [5] N (fun g s5 wx => ∃ i : Nat, i + g = N ∧ s5 = .int .i64 i ∧ W1 = wx ∧ Hid (x ∉ (ss.map PSt.name).take i))
  case atStart => exact ⟨0, by omega, by go_num, rfl, hide (by simp)⟩
  case round =>
    obtain ⟨i, hig, rfl, hw, HX⟩ := hrel
    subst hw
    cases gk with
    | zero =>
      have e1 : (N : Int) ≤ (i : Int) := by omega
      have j1 : decide ((i : Int) < (N : Int)) = false := by simp; omega
      have e : RES = -1 := by
        have h1 := unhide HX
        rw [List.take_of_length_le (by rw [List.length_map, unhide HN]; omega)] at h1
        rw [← unhide HR, P28.idx_none.2 h1]
        rfl
      subst e
      go_wp2
      go_ret
      exact ⟨rfl, unhide HB1⟩
    | succ g' =>
      have hlt : (i : Int) < (N : Int) := by omega
      have hkj : IntKind.i64.wrap ((i : Int) + 1) = (i : Int) + 1 := IntWalk.i64_in _ (by omega)
      obtain ⟨s, hs⟩ := nth_of (unhide HN) (show i < N by omega)
      obtain ⟨⟨b, o, hsa, hat⟩, _⟩ := (unhide HIN).steps i s hs
      simp only at hsa
      subst hsa
      have c0 := (step_cells hat).1.1
      obtain ⟨n, hn⟩ : ∃ n, s.name = n := ⟨_, rfl⟩
      rw [hn] at c0
      have hg : (ss.map PSt.name)[i]? = some n := by rw [List.getElem?_map, hs, ← hn]; rfl
      have HG := hide hg
      clear hat hs hn hg
      by_cases hnx : n = x
      · subst hnx
        have e : RES = (i : Int) := by rw [← unhide HR, idx_first (unhide HG) (unhide HX)]; rfl
        subst e
        go_wp2
        go_ret
        exact ⟨rfl, unhide HB1⟩
      · have hne : (n == x) = false := by simpa using hnx
        go_wp2
        go_roundg g'
        case measure => omega
        case rel =>
          refine ⟨i + 1, by omega, by go_num, rfl, hide ?_⟩
          rw [List.take_add_one, unhide HG]
          intro hm
          rcases List.mem_append.1 hm with hm | hm
          · exact unhide HX hm
          · simp at hm; exact hnx hm.symm
set_option maxRecDepth 100000 in
theorem ramong_any (a : Option Addr) (c : Nat) (l : List (List UInt8)) (x : List UInt8) (w : World) (h : InS w a l) (hl : l.length ≤ 1000000) :
    Calls Tryz.prog 153 #[.slice a l.length c, .string ⟨x.toArray⟩] w fun e w' => e = .returned (.bool (decide (x ∈ l))) ∧ w' = w := by
  obtain ⟨N, hN⟩ : ∃ N, l.length = N := ⟨_, rfl⟩
  obtain ⟨RES, hR⟩ : ∃ R, decide (x ∈ l) = R := ⟨_, rfl⟩
  rw [hN] at hl ⊢
  rw [hR]
  have HH := hide h
  have HN := hide hN
  have HR := hide hR
  clear h hN hR
  go_enter Tryz.func153, Tryz.ntmps153
  go_wp2
  go_loopg [5] N (fun g s5 wx => ∃ i : Nat, i + g = N ∧ s5 = .int .i64 i ∧ w = wx ∧ Hid (x ∉ l.take i))
  case atStart => exact ⟨0, by omega, by go_num, rfl, hide (by simp)⟩
  case round =>
    obtain ⟨i, hig, rfl, hw, HX⟩ := hrel
    subst hw
    cases gk with
    | zero =>
      have e1 : (N : Int) ≤ (i : Int) := by omega
      have j1 : decide ((i : Int) < (N : Int)) = false := by simp; omega
      have e : RES = false := by
        have h1 := unhide HX
        rw [List.take_of_length_le (by rw [unhide HN]; omega)] at h1
        rw [← unhide HR]
        simpa using h1
      subst e
      go_wp2
      go_ret
      exact ⟨rfl, rfl⟩
    | succ g' =>
      have hlt : (i : Int) < (N : Int) := by omega
      have hkj : IntKind.i64.wrap ((i : Int) + 1) = (i : Int) + 1 := IntWalk.i64_in _ (by omega)
      obtain ⟨y, hy⟩ := nth_of (unhide HN) (show i < N by omega)
      obtain ⟨b, o, rfl, cj⟩ := unhide HH i y hy
      have HY := hide hy
      clear hy
      by_cases hxy : y = x
      · subst hxy
        have e : RES = true := by
          rw [← unhide HR]
          simpa using List.mem_of_getElem? (unhide HY)
        subst e
        go_wp2
        go_ret
        exact ⟨rfl, rfl⟩
      · have hne : (y == x) = false := by simpa using hxy
        go_wp2
        go_roundg g'
        case measure => omega
        case rel =>
          refine ⟨i + 1, by omega, by go_num, rfl, hide ?_⟩
          rw [List.take_add_one, unhide HY]
          intro hm
          rcases List.mem_append.1 hm with hm | hm
          · exact unhide HX hm
          · simp at hm; exact hxy hm.symm
theorem RRight_any (s : List UInt8) (w : World) (h : s.length ≤ 1000000) : Calls Tryz.prog 88 #[.string ⟨s.toArray⟩] w fun e w' => e = .returned (.bool (P28.right s)) ∧ w' = w := by
  have hp := refPlain_any ⟨s.toArray⟩ w (by simp [ByteArray.size]; unfold maxLen; omega)
  have hsz : (ByteArray.mk s.toArray).size = s.length := by simp [ByteArray.size]
  simp only [List.toList_toArray] at hp
  have e : P28.right s = (P18.plain s && decide (s.length ≤ 64)) := rfl
  cases hq : P18.plain s with
  | false =>
    rw [hq] at hp e
    rw [e]
    have HP := hide hp
    clear hp e
    go_enter Tryz.func88, Tryz.ntmps88
    go_wp2_with (go_at_call 131; refine (unhide HP).mono ?_; rintro e w' ⟨rfl, rfl⟩)
    all_goals go_ret
    all_goals exact ⟨ret_bool (by simp), rfl⟩
  | true =>
    rw [hq] at hp e
    rw [e]
    have HP := hide hp
    clear hp e
    go_enter Tryz.func88, Tryz.ntmps88
    go_wp2_with (go_at_call 131; refine (unhide HP).mono ?_; rintro e w' ⟨rfl, rfl⟩)
    all_goals go_ret
    all_goals exact ⟨ret_bool (by simp [hsz]; omega), rfl⟩
end Go.Proofs.YtefokfbgpfcbkaaGreat
namespace Go.Proofs.YtefokfbgpfcbkaaGreat
set_option linter.unusedVariables false
set_option linter.unusedSimpArgs false
open Go.RowKit
theorem bytesLess_eq : ∀ x y : List UInt8, Op.bytesLess x y = P28.ltS x y
  | [], [] => rfl
  | [], _ :: _ => rfl
  | _ :: _, [] => rfl
  | a :: x, b :: y => by
    unfold Op.bytesLess P28.ltS
    rw [bytesLess_eq x y]
    by_cases h1 : a < b
    · simp [h1]
    · by_cases h2 : b < a
      · have hne : a ≠ b := fun e => by rw [e] at h2; exact UInt8.lt_irrefl _ h2
        simp [h1, h2, hne]
      · have e : a = b := UInt8.le_antisymm (UInt8.not_lt.1 h2) (UInt8.not_lt.1 h1)
        subst e
        simp
set_option maxRecDepth 100000 in
set_option maxHeartbeats 2000000 in
theorem RLess_any (x y : P28.Note) (w : World) : Calls Tryz.prog 156 #[.agg (noteV x).toArray, .agg (noteV y).toArray] w fun e w' => e = .returned (.bool (P28.ltN x y)) ∧ Below w.heap.size w w' := by
  obtain ⟨a, b, s⟩ := x
  obtain ⟨c, d, t⟩ := y
  obtain ⟨H, hH⟩ : ∃ H, w.heap.size = H := ⟨_, rfl⟩
  rw [hH]
  obtain ⟨W1, hW1, hb1, g0, g1, hs1⟩ := new2 w (.cells #[.int .i64 a, .int .i64 b, .string ⟨s.toArray⟩] 183) (.cells #[.int .i64 c, .int .i64 d, .string ⟨t.toArray⟩] 183) H hH
  obtain ⟨⟨x0, _⟩, ⟨x1, _⟩, ⟨x2, _⟩⟩ := cell3 g0
  obtain ⟨⟨y0, _⟩, ⟨y1, _⟩, ⟨y2, _⟩⟩ := cell3 g1
  have HW1 := hide hW1
  have HB1 := hide hb1
  obtain ⟨RES, hR⟩ : ∃ R, P28.ltN (a, b, s) (c, d, t) = R := ⟨_, rfl⟩
  rw [hR]
  unfold P28.ltN at hR
  simp only at hR
  have HR := hide hR
  clear hW1 hb1 g0 g1 hR
  unfold noteV
  by_cases h1 : a = c
  · subst h1
    by_cases h2 : b = d
    · subst h2
      go_enter Tryz.func156, Tryz.ntmps156
      go_upto_region 1 with fail
      try rw [hH]
      rw [unhide HW1]
      go_wp2
      go_ret
      refine ⟨ret_bool ?_, unhide HB1⟩
      rw [← unhide HR, bytesLess_eq]
      simp
    · have hbd : (b != d) = true := by simpa using h2
      go_enter Tryz.func156, Tryz.ntmps156
      go_upto_region 1 with fail
      try rw [hH]
      rw [unhide HW1]
      go_wp2
      go_ret
      refine ⟨ret_bool ?_, unhide HB1⟩
      rw [← unhide HR]
      simp only [Int.lt_irrefl, if_false]
      by_cases h3 : b < d
      · simp [h3]
      · have : d < b := by omega
        simp [h3, this]
  · have hac : (a != c) = true := by simpa using h1
    go_enter Tryz.func156, Tryz.ntmps156
    go_upto_region 1 with fail
    try rw [hH]
    rw [unhide HW1]
    go_wp2
    go_ret
    refine ⟨ret_bool ?_, unhide HB1⟩
    rw [← unhide HR]
    by_cases h3 : a < c
    · simp [h3]
    · have : c < a := by omega
      simp [h3, this]
theorem none_eq (k : Nat) (t : List UInt8) (ks : List (List UInt8)) (ds : List P20.T) (l : Int) : P28.noneB (.mk k t ks ds l) = (decide (k = 0) && (t.isEmpty && (decide (ks.length = 0) && decide (ds.length = 0)))) := by
  unfold P28.noneB P20.T.same
  rw [Bool.eq_iff_iff]
  cases t <;> cases ks <;> cases ds <;> simp [P20.sameL]
set_option maxRecDepth 100000 in
set_option maxHeartbeats 2000000 in
theorem RNone_any (n : Nd) (w : World) : Calls Tryz.prog 158 #[n.val] w fun e w' => e = .returned (.bool (P28.noneB n.bare)) ∧ Below w.heap.size w w' := by
  obtain ⟨k, t, ka, kc, ks, da, dc, ds, l⟩ := n
  obtain ⟨H, hH⟩ : ∃ H, w.heap.size = H := ⟨_, rfl⟩
  rw [hH]
  obtain ⟨KL, hKL⟩ : ∃ x, ks.length = x := ⟨_, rfl⟩
  obtain ⟨DL, hDL⟩ : ∃ x, ds.length = x := ⟨_, rfl⟩
  have he : P28.noneB (Nd.mk k t ka kc ks da dc ds l).bare = (decide (k = 0) && (t.isEmpty && (decide (KL = 0) && decide (DL = 0)))) := by
    rw [Nd.bare, none_eq, hKL, bareL_len, hDL]
  rw [he]
  unfold Nd.val
  simp only [Nd.kind, Nd.text, Nd.kV, Nd.dV, Nd.line, Nd.keys, Nd.kids, Nd.ka, Nd.kc, Nd.da, Nd.dc, hKL, hDL]
  obtain ⟨W1, hW1, hb1, g0, hs1⟩ := new1 w (.cells #[.int .u8 k, .string ⟨t.toArray⟩, .slice ka KL kc, .slice da DL dc, .int .i64 l] 61) H hH
  have g1 := five_cell g0
  have HW1 := hide hW1
  have HB1 := hide hb1
  clear hW1 hb1 g0 he hKL hDL
  by_cases h1 : k = 0
  · have E1 : Hid (((k : Int) == 0) = true) := hide (by simp; omega)
    have H1 := hide h1
    clear h1
    cases t with
    | nil =>
      by_cases h2 : KL = 0
      · have E2 : Hid (((KL : Int) == 0) = true) := hide (by simp; omega)
        have H2 := hide h2
        clear h2
        go_enter Tryz.func158, Tryz.ntmps158
        go_upto_region 1 with fail
        try rw [hH]
        rw [unhide HW1]
        have e1 := unhide E1
        have e2 := unhide E2
        go_wp2
        go_ret
        exact ⟨ret_bool (by rw [unhide H1, unhide H2]; by_cases hd : DL = 0 <;> simp [hd]), unhide HB1⟩
      · have e2 : ((KL : Int) == 0) = false := by simp; omega
        go_enter Tryz.func158, Tryz.ntmps158
        go_upto_region 1 with fail
        try rw [hH]
        rw [unhide HW1]
        have e1 := unhide E1
        go_wp2
        go_ret
        exact ⟨ret_bool (by simp [h2, unhide H1]), unhide HB1⟩
    | cons c r =>
      go_enter Tryz.func158, Tryz.ntmps158
      go_upto_region 1 with fail
      try rw [hH]
      rw [unhide HW1]
      have e1 := unhide E1
      go_wp2
      go_ret
      exact ⟨ret_bool (by simp), unhide HB1⟩
  · have e1 : ((k : Int) == 0) = false := by simp; omega
    go_enter Tryz.func158, Tryz.ntmps158
    go_upto_region 1 with fail
    try rw [hH]
    rw [unhide HW1]
    go_wp2
    go_ret
    exact ⟨ret_bool (by simp [h1]), unhide HB1⟩
end Go.Proofs.YtefokfbgpfcbkaaGreat
namespace Go.Proofs.YtefokfbgpfcbkaaGreat
set_option linter.unusedVariables false
set_option linter.unusedSimpArgs false
open Go.RowKit
namespace P28
def insR (o : List Note) (x : Note) : List Note := if o[(o.takeWhile fun y => ltN y x).length]? = some x then o else o.take (o.takeWhile fun y => ltN y x).length ++ x :: o.drop (o.takeWhile fun y => ltN y x).length
def sortR (l : List Note) : List Note := l.foldl insR []
theorem tw_at : ∀ {o : List Note} {x : Note} {k : Nat}, (∀ j y, j < k → o[j]? = some y → ltN y x = true) → k ≤ o.length → (∀ y, o[k]? = some y → ltN y x = false) → (o.takeWhile fun y => ltN y x).length = k
  | [], x, k, _, h, _ => by simp at h; simp [h]
  | y :: o, x, 0, _, _, h => by
    have := h y rfl
    simp [List.takeWhile, this]
  | y :: o, x, k + 1, h1, h2, h3 => by
    have h := h1 0 y (by omega) rfl
    rw [List.takeWhile_cons, if_pos h, List.length_cons, tw_at (k := k) (fun j z hj hz => h1 (j + 1) z (by omega) (by simpa using hz)) (by simpa using h2) (fun z hz => h3 z (by simpa using hz))]
theorem insR_yes {o : List Note} {x : Note} {k : Nat} (h1 : ∀ j y, j < k → o[j]? = some y → ltN y x = true) (h2 : o[k]? = some x) (h3 : ltN x x = false) : insR o x = o := by
  unfold insR
  rw [tw_at h1 (Nat.le_of_lt (List.getElem?_eq_some_iff.1 h2).1) (fun y hy => by rw [h2] at hy; cases hy; exact h3), if_pos h2]
theorem insR_no {o : List Note} {x : Note} {k : Nat} (h1 : ∀ j y, j < k → o[j]? = some y → ltN y x = true) (hk : k ≤ o.length) (h2 : ∀ y, o[k]? = some y → ltN y x = false ∧ y ≠ x) : insR o x = o.take k ++ x :: o.drop k := by
  unfold insR
  rw [tw_at h1 hk (fun y hy => (h2 y hy).1), if_neg (fun e => (h2 _ e).2 rfl)]
theorem insR_len (o : List Note) (x : Note) : (insR o x).length ≤ o.length + 1 := by
  unfold insR
  split
  · omega
  · rw [List.length_append, List.length_cons, List.length_take, List.length_drop]; omega
theorem insR_ne (o : List Note) (x : Note) : insR o x ≠ [] := by
  unfold insR
  split
  · rename_i h
    intro e
    rw [e] at h
    simp at h
  · simp
theorem foldl_len : ∀ (l o : List Note), (l.foldl insR o).length ≤ o.length + l.length
  | [], o => by simp
  | x :: l, o => by
    rw [List.foldl_cons, List.length_cons]
    have := foldl_len l (insR o x)
    have := insR_len o x
    omega
theorem foldl_ne : ∀ (l o : List Note), o ≠ [] → l.foldl insR o ≠ []
  | [], o, h => h
  | x :: l, o, h => by rw [List.foldl_cons]; exact foldl_ne l _ (insR_ne o x)
theorem sortR_nil (l : List Note) : sortR l = [] ↔ l = [] := by
  unfold sortR
  cases l with
  | nil => simp
  | cons x l => rw [List.foldl_cons]; exact ⟨fun h => absurd h (foldl_ne l _ (insR_ne _ x)), fun h => by cases h⟩
theorem sortR_len (l : List Note) : (sortR l).length ≤ l.length := by have := foldl_len l []; unfold sortR; simpa using this
theorem ltS_self : ∀ s : Tx, ltS s s = false
  | [] => rfl
  | a :: s => by unfold ltS; simp [UInt8.lt_irrefl, ltS_self s]
theorem ltN_self (x : Note) : ltN x x = false := by
  obtain ⟨a, b, s⟩ := x
  unfold ltN
  simp [ltS_self]
end P28
theorem eq3_no {yi xi ye xe : Int} {yt xt : List UInt8} (h : ¬((yi, ye, yt) = (xi, xe, xt))) {α : Type} {a b : α} [Decidable (yi = xi)] [Decidable (ye = xe)] [Decidable (yt = xt)] : (if yi = xi then if ye = xe then if yt = xt then a else b else b else b) = b := by
  split
  · split
    · split
      · rename_i h1 h2 h3; exact absurd (by rw [h1, h2, h3]) h
      · rfl
    · rfl
  · rfl
set_option maxRecDepth 100000 in
set_option maxHeartbeats 4000000 in
theorem RSort_any (ns : List P28.Note) (v : Value) (w : World) (B : Nat) (h : OwnT w B v ns) (hl : ns.length ≤ 900000000) :
    Calls Tryz.prog 115 #[v] w fun e w' => ∃ v', e = .returned v' ∧ OwnT w' w.heap.size v' (P28.sortR ns) ∧ Below w.heap.size w w' := by
  obtain ⟨a, c, rfl⟩ := h.form
  have hblk := fun (g : Nat) (e : (Value.slice a ns.length c).ownBlock = some g) => (h.lt e).2
  obtain ⟨H, hH⟩ : ∃ H, w.heap.size = H := ⟨_, rfl⟩
  obtain ⟨M, hM⟩ : ∃ M, ns.length = M := ⟨_, rfl⟩
  rw [hM] at hl h hblk ⊢
  rw [hH] at hblk ⊢
  have hin : ∀ V, Below H w V → OwnT V B (.slice a M c) ns := fun V hb => h.keep (fun g hg => hb.block g (hblk g hg))
  have hle : ∀ i, ((ns.take i).foldl P28.insR []).length ≤ M := fun i => by
    have := P28.foldl_len (ns.take i) []
    rw [List.length_take, hM] at this
    simp at this
    omega
  have HIN := hide hin
  have HM := hide hM
  have HLE := hide hle
  have HHS := hide hH
  clear hin hM hle h hblk
  go_enter Tryz.func115, Tryz.ntmps115
  go_wp2
  go_loopg [3, 4] M (fun g s3 s4 wx => ∃ (i : Nat) (v : Value), i + g = M ∧ s4 = .int .i64 i ∧ s3 = v ∧ Hid (OwnT wx H v ((ns.take i).foldl P28.insR [])) ∧ Hid (Below H w wx))
  case atStart => exact ⟨0, _, by omega, by go_num, rfl, hide (OwnT.nil _ _), hide (Below.refl _ _)⟩
  case round =>
    obtain ⟨i, v, hig, rfl, rfl, HO, HB⟩ := hrel
    cases gk with
    | zero =>
      have e1 : (M : Int) ≤ (i : Int) := by omega
      have j1 : decide ((i : Int) < (M : Int)) = false := by simp; omega
      have htk : ns.take i = ns := List.take_of_length_le (by rw [unhide HM]; omega)
      have hfin := unhide HO
      rw [htk] at hfin
      have HF := hide hfin
      clear hfin htk
      go_wp2
      go_ret
      exact ⟨_, rfl, unhide HF, unhide HB⟩
    | succ g' =>
      have hlt : (i : Int) < (M : Int) := by omega
      have hki : IntKind.i64.wrap ((i : Int) + 1) = (i : Int) + 1 := IntWalk.i64_in _ (by omega)
      obtain ⟨⟨xi, xe, xt⟩, hx⟩ := nth_of (unhide HM) (show i < M by omega)
      have htk1 : (ns.take (i + 1)).foldl P28.insR [] = P28.insR ((ns.take i).foldl P28.insR []) (xi, xe, xt) := by rw [List.take_add_one, hx, List.foldl_append]; rfl
      obtain ⟨o, ho⟩ : ∃ o, (ns.take i).foldl P28.insR [] = o := ⟨_, rfl⟩
      have hol := unhide HLE i
      have HO1 := unhide HO
      rw [ho] at htk1 hol HO1
      obtain ⟨N, hN⟩ : ∃ N, o.length = N := ⟨_, rfl⟩
      obtain ⟨va, vc, hv⟩ := HO1.form
      rw [hN] at hol hv
      subst hv
      have HO := hide HO1
      obtain ⟨K, hK⟩ : ∃ K, wr.heap.size = K := ⟨_, rfl⟩
      have hHK : H ≤ K := by have := (unhide HB).size; rw [unhide HHS] at this; omega
      obtain ⟨gb, rfl, _⟩ := ((unhide HIN) wr (unhide HB)).get hx
      have HTK := hide htk1
      have HX := hide hx
      have HN := hide hN
      have HK := hide hK
      clear HO1 ho htk1 hx hN hK
      go_wp2
      go_loopg [5] N (fun g2 s5 wy => ∃ k : Nat, k + g2 = N ∧ s5 = .int .i64 k ∧ Hid (Below K wr wy) ∧ Hid (∀ j y, j < k → o[j]? = some y → P28.ltN y (xi, xe, xt) = true))
      case atStart => exact ⟨0, by omega, by go_num, hide (Below.refl _ _), hide (fun j y hj => by omega)⟩
      case round =>
        obtain ⟨k, hkg, rfl, HBK, HLT⟩ := hrel
        have hbw : Below H w wr := (unhide HB).trans ((unhide HBK).mono hHK)
        obtain ⟨gb2, hgb2, x0, x1, x2⟩ := ((unhide HIN) wr hbw).get (unhide HX)
        cases hgb2
        have HO2 := hide ((unhide HO).keep (W' := wr) (fun g hg => (unhide HBK).block g (by have := ((unhide HO).lt hg).2; rw [← unhide HK]; exact this)))
        have hway : (∃ y, o[k]? = some y ∧ P28.ltN y (xi, xe, xt) = true) ∨ o[k]? = some (xi, xe, xt) ∨ (∃ y, o[k]? = some y ∧ P28.ltN y (xi, xe, xt) = false ∧ y ≠ (xi, xe, xt)) ∨ k = N := by
          by_cases hkN : k < N
          · obtain ⟨y, hy⟩ := nth_of (unhide HN) hkN
            cases hly : P28.ltN y (xi, xe, xt) with
            | true => exact .inl ⟨y, hy, hly⟩
            | false =>
              by_cases hyx : y = (xi, xe, xt)
              · subst hyx; exact .inr (.inl hy)
              · exact .inr (.inr (.inl ⟨y, hy, hly, hyx⟩))
          · exact .inr (.inr (.inr (by omega)))
        have HBW := hide hbw
        clear hbw
        have hlen : ∀ y, o[k]? = some y → k < N := fun y hy => by rw [← unhide HN]; exact (List.getElem?_eq_some_iff.1 hy).1
        rcases hway with ⟨⟨yi, ye, yt⟩, hy, hly⟩ | hy | ⟨⟨yi, ye, yt⟩, hy, hly, hne⟩ | hkN
        · have j3 := hlen _ hy
          obtain ⟨g2, rfl⟩ : ∃ g2, gk = g2 + 1 := ⟨gk - 1, by omega⟩
          have hlt2 : (k : Int) < (N : Int) := by omega
          have hkk : IntKind.i64.wrap ((k : Int) + 1) = (k : Int) + 1 := IntWalk.i64_in _ (by omega)
          have ho2 := unhide HO2
          rw [← unhide HN] at ho2
          obtain ⟨go, rfl, y0, y1, y2⟩ := ho2.get hy
          have HY := hide hy
          have hless := fun V => RLess_any (yi, ye, yt) (xi, xe, xt) V
          rw [hly] at hless
          simp only [noteV] at hless
          have HLESS := hide hless
          have HRES := hide hly
          clear hy ho2 hless hly hlen
          go_wp2
          refine wp_region_tail 13 (by kernel_rfl) (by kernel_rfl) (by kernel_rfl) (by kernel_rfl) (by kernel_rfl) ?_
          simp only [List.take_succ_cons, List.take_zero, List.drop_succ_cons, List.drop_zero]
          repeat (go_big_quiet_step (fail))
          refine wpQuiet_nil ?_
          intro _ hw'
          obtain ⟨nq, hw''⟩ := hw'
          subst hw''
          go_wp2_with (go_at_call 156; refine ((unhide HLESS) _).mono ?_; rintro e w2 ⟨rfl, hb2⟩)
          go_roundg g2
          case measure => omega
          case rel =>
            refine ⟨k + 1, by omega, by go_num, hide ((unhide HBK).trans ((below_drewN (Below.refl _ _)).trans (hb2.mono (by have := (unhide HBK).size; rw [unhide HK] at this; simp; omega)))), hide (fun j y hj hjy => ?_)⟩
            by_cases hjk : j = k
            · subst hjk
              rw [unhide HY] at hjy
              cases hjy
              exact unhide HRES
            · exact unhide HLT j y (by omega) hjy
        · have j3 := hlen _ hy
          have hlt2 : (k : Int) < (N : Int) := by omega
          have ho2 := unhide HO2
          rw [← unhide HN] at ho2
          obtain ⟨go, rfl, y0, y1, y2⟩ := ho2.get hy
          have hless := fun V => RLess_any (xi, xe, xt) (xi, xe, xt) V
          rw [P28.ltN_self] at hless
          simp only [noteV] at hless
          have HLESS := hide hless
          have HINS := hide (P28.insR_yes (unhide HLT) hy (P28.ltN_self _))
          clear ho2 hless hlen
          have HY := hide hy
          clear hy
          go_wp2
          refine wp_region_tail 13 (by kernel_rfl) (by kernel_rfl) (by kernel_rfl) (by kernel_rfl) (by kernel_rfl) ?_
          simp only [List.take_succ_cons, List.take_zero, List.drop_succ_cons, List.drop_zero]
          repeat (go_big_quiet_step (fail))
          refine wpQuiet_nil ?_
          intro _ hw'
          obtain ⟨nq, hw''⟩ := hw'
          subst hw''
          go_wp2_with (go_at_call 156; refine ((unhide HLESS) _).mono ?_; rintro e w2 ⟨rfl, hb2⟩)
          have hbk2 : Below K wr w2 := (below_drewN (Below.refl _ _)).trans (hb2.mono (by have := (unhide HBK).size; rw [unhide HK] at this; simp; omega))
          have HBW2 := hide ((unhide HBW).trans (hbk2.mono hHK))
          have ho3 := (unhide HO2).keep (W' := w2) (fun g hg => hb2.block g ((unhide HO2).lt hg).2)
          have HO3 := hide ho3
          rw [← unhide HN] at ho3
          obtain ⟨go3, hgo3, z0, z1, z2⟩ := ho3.get (unhide HY)
          cases hgo3
          obtain ⟨gb3, hgb3, v0, v1, v2⟩ := ((unhide HIN) w2 (unhide HBW2)).get (unhide HX)
          cases hgb3
          clear ho3 hbk2 hb2 y0 y1 y2 x0 x1 x2
          refine wp_region_quiet_lit (by kernel_rfl) (by kernel_rfl) ?_
          repeat (go_big_quiet_step (fail))
          refine wpQuiet_nil ?_
          intro _ hw'
          obtain ⟨nq2, hw''⟩ := hw'
          subst hw''
          go_wp2
          go_roundg g'
          case measure => omega
          case rel =>
            refine ⟨i + 1, _, by omega, by go_num, rfl, hide ?_, hide ((unhide HBW2).trans (below_drewN (Below.refl _ _)))⟩
            rw [unhide HTK, unhide HINS]
            exact (unhide HO3).keep (fun g hg => rfl)
        case' inr.inr.inl =>
          have j3 := hlen _ hy
          have hlt2 : (k : Int) < (N : Int) := by omega
          have ho2 := unhide HO2
          rw [← unhide HN] at ho2
          obtain ⟨go, rfl, y0, y1, y2⟩ := ho2.get hy
          have hless := fun V => RLess_any (yi, ye, yt) (xi, xe, xt) V
          rw [hly] at hless
          simp only [noteV] at hless
          have HLESS := hide hless
          have hkn : k ≤ N := by omega
          have HINS := hide (P28.insR_no (k := k) (unhide HLT) (by rw [unhide HN]; omega) (fun y hy2 => by rw [hy] at hy2; cases hy2; exact ⟨hly, hne⟩))
          have HY := hide hy
          clear ho2 hless hlen hy
          go_wp2
          refine wp_region_tail 13 (by kernel_rfl) (by kernel_rfl) (by kernel_rfl) (by kernel_rfl) (by kernel_rfl) ?_
          simp only [List.take_succ_cons, List.take_zero, List.drop_succ_cons, List.drop_zero]
          repeat (go_big_quiet_step (fail))
          refine wpQuiet_nil ?_
          intro _ hw'
          obtain ⟨nq, hw''⟩ := hw'
          subst hw''
          go_wp2_with (go_at_call 156; refine ((unhide HLESS) _).mono ?_; rintro e w2 ⟨rfl, hb2⟩)
          have hbk2 : Below K wr w2 := (below_drewN (Below.refl _ _)).trans (hb2.mono (by have := (unhide HBK).size; rw [unhide HK] at this; simp; omega))
          have HBW2 := hide ((unhide HBW).trans (hbk2.mono hHK))
          have ho3 := (unhide HO2).keep (W' := w2) (fun g hg => hb2.block g ((unhide HO2).lt hg).2)
          have HO3 := hide ho3
          rw [← unhide HN] at ho3
          obtain ⟨go3, hgo3, z0, z1, z2⟩ := ho3.get (unhide HY)
          cases hgo3
          obtain ⟨gb3, hgb3, v0, v1, v2⟩ := ((unhide HIN) w2 (unhide HBW2)).get (unhide HX)
          cases hgb3
          clear ho3 hbk2 hb2 y0 y1 y2 x0 x1 x2
          refine wp_region_quiet_lit (by kernel_rfl) (by kernel_rfl) ?_
          repeat (go_big_quiet_step ((rw [eq3_no hne]; exact ⟨rfl, rfl⟩)))
          refine wpQuiet_nil ?_
          intro _ hw'
          obtain ⟨nq2, hw''⟩ := hw'
          subst hw''
          obtain ⟨U, hU⟩ : ∃ U, w2.drewN nq2 = U := ⟨_, rfl⟩
          have HBU : Hid (Below H w U) := hide (by rw [← hU]; exact (unhide HBW2).trans (below_drewN (Below.refl _ _)))
          have HOU : Hid (OwnT U H (.slice (some ⟨go, 0, none⟩) N vc) o) := hide (by rw [← hU]; exact (unhide HO3).keep (fun g hg => rfl))
          rw [hU]
          clear hU z0 z1 z2 v0 v1 v2
          go_wp2
        case' inr.inr.inr =>
          have e2 : (N : Int) ≤ (k : Int) := by omega
          have j2 : decide ((k : Int) < (N : Int)) = false := by simp; omega
          have j3 : ¬ k < N := by omega
          have hkn : k ≤ N := by omega
          have HINS := hide (P28.insR_no (k := k) (unhide HLT) (by rw [unhide HN]; omega) (fun y hy2 => absurd (hlen y hy2) (by omega)))
          clear hlen hkN
          go_wp2
          refine wp_region_quiet_lit (by kernel_rfl) (by kernel_rfl) ?_
          repeat (go_big_quiet_step (fail))
          refine wpQuiet_nil ?_
          intro _ hw'
          obtain ⟨nq, hw''⟩ := hw'
          subst hw''
          go_wp2
          refine wp_region_quiet_lit (by kernel_rfl) (by kernel_rfl) ?_
          repeat (go_big_quiet_step (fail))
          refine wpQuiet_nil ?_
          intro _ hw'
          obtain ⟨nq2, hw''⟩ := hw'
          subst hw''
          obtain ⟨U, hU⟩ : ∃ U, (wr.drewN nq).drewN nq2 = U := ⟨_, rfl⟩
          have HBU : Hid (Below H w U) := hide (by rw [← hU]; exact (unhide HBW).trans (below_drewN (below_drewN (Below.refl _ _))))
          have HOU : Hid (OwnT U H (.slice va N vc) o) := hide (by rw [← hU]; exact (unhide HO2).keep (fun g hg => rfl))
          rw [hU]
          clear hU x0 x1 x2
          go_wp2
        all_goals (
          obtain ⟨D, hD⟩ : ∃ D, U.heap.size = D := ⟨_, rfl⟩
          have hHD : H ≤ D := by have := (unhide HBU).size; rw [unhide HHS] at this; omega
          have HD := hide hD
          clear hD
          go_loopg [6, 7] k (fun g3 s6 s7 wz => ∃ (j : Nat) (v6 : Value), j + g3 = k ∧ s7 = .int .i64 j ∧ s6 = v6 ∧ Hid (OwnT wz D v6 (o.take j)) ∧ Hid (Below D U wz))
          case atStart => exact ⟨0, _, by omega, by go_num, rfl, hide (OwnT.nil _ _), hide (Below.refl _ _)⟩
          case round =>
            obtain ⟨j, v6, hjg, rfl, rfl, HOZ, HBZ⟩ := hrel
            have hDE : D ≤ wr.heap.size := by have := (unhide HBZ).size; rw [unhide HD] at this; omega
            obtain ⟨va6, vc6, hv6⟩ := (unhide HOZ).form
            have hl6 : (o.take j).length = j := by rw [List.length_take, unhide HN]; omega
            rw [hl6] at hv6
            subst hv6
            have HL6 := hide hl6
            clear hl6
            cases gk with
            | zero =>
              have e3 : (k : Int) ≤ (j : Int) := by omega
              have j4 : decide ((j : Int) < (k : Int)) = false := by simp; omega
              obtain ⟨gb4, hgb4, x0, x1, x2⟩ := ((unhide HIN) wr ((unhide HBU).trans ((unhide HBZ).mono hHD))).get (unhide HX)
              cases hgb4
              obtain ⟨W1, hW1, hb1, gn, hs1⟩ := new1 wr (.cells #[.int .i64 xi, .int .i64 xe, .string ⟨xt.toArray⟩] 183) wr.heap.size rfl
              have HOZ1 := hide ((unhide HOZ).keep (W' := W1) (fun g hg => hb1.block g ((unhide HOZ).lt hg).2))
              have HBZ1 := hide ((unhide HBZ).trans (hb1.mono hDE))
              have hDW : D ≤ W1.heap.size := by omega
              have HW1 := hide hW1
              have HGN := hide gn
              clear hW1 gn hb1 HOZ HBZ
              go_wp2_with (rw [unhide HW1]; refine wpList_appNote (p := (xi, xe, xt)) (by rfl) _ _ (by rfl) (by rfl) (unhide HOZ1) wr.heap.size 1 (by rfl) (unhide HGN) j (unhide HL6) (by omega) hDW ?_; intro g2 cap2 w3 hown3 hgrow hat hlt3; have HO4 := hide hown3; have HB4 := hide ((unhide HBZ1).grown hgrow hDW (fun g hg => ((unhide HOZ1).lt hg).1)); clear hown3 hgrow hat hlt3)
              obtain rfl : j = k := by omega
              go_loopg [6, 8] (N - j) (fun g4 s6 s8 wq => ∃ (q : Nat) (acc : List P28.Note) (v6 : Value), q + g4 = N ∧ s8 = .int .i64 q ∧ s6 = v6 ∧ Hid (acc.length = q + 1) ∧ Hid (OwnT wq D v6 acc) ∧ Hid (acc ++ o.drop q = P28.insR o (xi, xe, xt)) ∧ Hid (Below D U wq))
              case atStart => exact ⟨j, o.take j ++ [(xi, xe, xt)], _, by omega, by go_num, rfl, hide (by rw [List.length_append, unhide HL6]; rfl), HO4, hide (by rw [unhide HINS]; simp), HB4⟩
              case round =>
                clear HO4 HB4 HL6 HBZ1 HOZ1
                obtain ⟨q, acc, v6, hqg, rfl, rfl, HL6, HOZ, HAC, HBZ⟩ := hrel
                have hDE : D ≤ wr.heap.size := by have := (unhide HBZ).size; rw [unhide HD] at this; omega
                obtain ⟨va6, vc6, hv6⟩ := (unhide HOZ).form
                rw [unhide HL6] at hv6
                subst hv6
                cases gk with
                | zero =>
                  have e3 : (N : Int) ≤ (q : Int) := by omega
                  have j4 : decide ((q : Int) < (N : Int)) = false := by simp; omega
                  have hac := unhide HAC
                  rw [List.drop_eq_nil_of_le (by rw [unhide HN]; omega), List.append_nil] at hac
                  have HAC2 := hide hac
                  clear hac
                  go_wp2
                  go_roundg g'
                  case measure => omega
                  case rel => exact ⟨i + 1, _, by omega, by go_num, rfl, hide (by rw [unhide HTK, ← unhide HAC2]; exact (unhide HOZ).base hHD), hide ((unhide HBU).trans ((unhide HBZ).mono hHD))⟩
                | succ g4 =>
                  have hlt4 : (q : Int) < (N : Int) := by omega
                  have hkj : IntKind.i64.wrap ((q : Int) + 1) = (q : Int) + 1 := IntWalk.i64_in _ (by omega)
                  obtain ⟨⟨pi, pe, pt⟩, hp⟩ := nth_of (unhide HN) (show q < N by omega)
                  have hz := (unhide HOU).keep (W' := wr) (fun g hg => (unhide HBZ).block g (by have := ((unhide HOU).lt hg).2; rw [← unhide HD]; exact this))
                  rw [← unhide HN] at hz
                  obtain ⟨g9, hg9, c0, c1, c2⟩ := hz.get hp
                  cases hg9
                  have HT1 : Hid ((acc ++ [(pi, pe, pt)]) ++ o.drop (q + 1) = P28.insR o (xi, xe, xt)) := hide (by rw [← unhide HAC, List.append_assoc, List.singleton_append, List.drop_eq_getElem_cons (by rw [unhide HN]; omega : q < o.length)]; congr 2; exact ((List.getElem?_eq_some_iff.1 hp).2).symm)
                  clear hz hp
                  obtain ⟨W1, hW1, hb1, gn, hs1⟩ := new1 wr (.cells #[.int .i64 pi, .int .i64 pe, .string ⟨pt.toArray⟩] 183) wr.heap.size rfl
                  have HOZ1 := hide ((unhide HOZ).keep (W' := W1) (fun g hg => hb1.block g ((unhide HOZ).lt hg).2))
                  have HBZ1 := hide ((unhide HBZ).trans (hb1.mono hDE))
                  have hDW : D ≤ W1.heap.size := by omega
                  have HW1 := hide hW1
                  have HGN := hide gn
                  clear hW1 gn hb1 HOZ HBZ
                  go_wp2_with (rw [unhide HW1]; refine wpList_appNote (p := (pi, pe, pt)) (by rfl) _ _ (by rfl) (by rfl) (unhide HOZ1) wr.heap.size 1 (by rfl) (unhide HGN) (q + 1) (unhide HL6) (by omega) hDW ?_; intro g2 cap2 w3 hown3 hgrow hat hlt3; have HO4 := hide hown3; have HB4 := hide ((unhide HBZ1).grown hgrow hDW (fun g hg => ((unhide HOZ1).lt hg).1)); clear hown3 hgrow hat hlt3)
                  go_roundg g4
                  case measure => omega
                  case rel => exact ⟨q + 1, _, _, by omega, by go_num, rfl, hide (by rw [List.length_append, unhide HL6]; rfl), HO4, HT1, HB4⟩
            | succ g3 =>
              have hlt4 : (j : Int) < (k : Int) := by omega
              have hkj : IntKind.i64.wrap ((j : Int) + 1) = (j : Int) + 1 := IntWalk.i64_in _ (by omega)
              obtain ⟨⟨pi, pe, pt⟩, hp⟩ := nth_of (unhide HN) (show j < N by omega)
              have hz := (unhide HOU).keep (W' := wr) (fun g hg => (unhide HBZ).block g (by have := ((unhide HOU).lt hg).2; rw [← unhide HD]; exact this))
              rw [← unhide HN] at hz
              obtain ⟨g9, hg9, c0, c1, c2⟩ := hz.get hp
              cases hg9
              have HT1 : Hid (o.take (j + 1) = o.take j ++ [(pi, pe, pt)]) := hide (by rw [List.take_add_one, hp]; rfl)
              clear hz hp
              obtain ⟨W1, hW1, hb1, gn, hs1⟩ := new1 wr (.cells #[.int .i64 pi, .int .i64 pe, .string ⟨pt.toArray⟩] 183) wr.heap.size rfl
              have HOZ1 := hide ((unhide HOZ).keep (W' := W1) (fun g hg => hb1.block g ((unhide HOZ).lt hg).2))
              have HBZ1 := hide ((unhide HBZ).trans (hb1.mono hDE))
              have hDW : D ≤ W1.heap.size := by omega
              have HW1 := hide hW1
              have HGN := hide gn
              clear hW1 gn hb1 HOZ HBZ
              go_wp2_with (rw [unhide HW1]; refine wpList_appNote (p := (pi, pe, pt)) (by rfl) _ _ (by rfl) (by rfl) (unhide HOZ1) wr.heap.size 1 (by rfl) (unhide HGN) j (unhide HL6) (by omega) hDW ?_; intro g2 cap2 w3 hown3 hgrow hat hlt3; have HO4 := hide hown3; have HB4 := hide ((unhide HBZ1).grown hgrow hDW (fun g hg => ((unhide HOZ1).lt hg).1)); clear hown3 hgrow hat hlt3)
              go_roundg g3
              case measure => omega
              case rel => exact ⟨j + 1, _, by omega, by go_num, rfl, hide (by rw [unhide HT1]; exact unhide HO4), HB4⟩)
end Go.Proofs.YtefokfbgpfcbkaaGreat
namespace Go.Proofs.YtefokfbgpfcbkaaGreat
set_option linter.unusedVariables false
set_option linter.unusedSimpArgs false
open Go.RowKit
structure RowsN (W : World) (B : Nat) (v : Value) (vs : List Value) (RS : List (List Nat)) : Prop where
  own : W.ownsRow B 48 1 v vs.length vs
  len : vs.length = RS.length
  row : ∀ (i : Nat) u l, vs[i]? = some u → RS[i]? = some l → OwnN W B u l
  apart : ∀ (i : Nat) u g, vs[i]? = some u → u.ownBlock = some g → v.ownBlock ≠ some g
theorem RowsN.nil (W : World) (B : Nat) : RowsN W B (.slice none 0 0) [] [] :=
  ⟨World.ownsRow_nil W B 48 1, rfl, fun i u l h => by simp at h, fun i u g h => by simp at h⟩
theorem RowsN.at {W : World} {B : Nat} {v : Value} {vs : List Value} {RS : List (List Nat)} (h : RowsN W B v vs RS) {i : Nat} {u : Value} (hu : vs[i]? = some u) : ∃ l, RS[i]? = some l ∧ OwnN W B u l := by
  have hl : i < RS.length := by rw [← h.len]; exact (List.getElem?_eq_some_iff.1 hu).1
  exact ⟨_, List.getElem?_eq_getElem hl, h.row i u _ hu (List.getElem?_eq_getElem hl)⟩
theorem RowsN.keep {W W' : World} {B : Nat} {v : Value} {vs : List Value} {RS : List (List Nat)} (h : RowsN W B v vs RS) (hk : ∀ g, g < W.heap.size → W'.heap[g]? = W.heap[g]?) : RowsN W' B v vs RS :=
  ⟨own_keep h.own (fun g hg => hk g (own_block_lt h.own g hg).2), h.len, fun i u l hu hl => (h.row i u l hu hl).keep (fun g hg => hk g ((h.row i u l hu hl).lt hg).2), h.apart⟩
theorem RowsN.form {W : World} {B : Nat} {v : Value} {vs : List Value} {RS : List (List Nat)} (h : RowsN W B v vs RS) : ∃ a c, v = .slice a RS.length c := by
  rcases h.own.2 with ⟨rfl, h0⟩ | ⟨g, cap, cur, rfl, _⟩
  · exact ⟨none, 0, by rw [← h.len, h0]⟩
  · exact ⟨_, cap, by rw [← h.len]⟩
theorem RowsN.base {W : World} {B B' : Nat} {v : Value} {vs : List Value} {RS : List (List Nat)} (h : RowsN W B v vs RS) (hB : B' ≤ B) : RowsN W B' v vs RS := by
  refine ⟨⟨h.own.1, ?_⟩, h.len, fun i u l hu hl => (h.row i u l hu hl).base hB, h.apart⟩
  rcases h.own.2 with h | ⟨g, cap, cur, h1, h2, h3⟩
  · exact .inl h
  · exact .inr ⟨g, cap, cur, h1, Nat.le_trans hB h2, h3⟩
theorem RowsN.get {W : World} {B n c i : Nat} {a : Option Addr} {vs : List Value} {RS : List (List Nat)} {l : List Nat} (h : RowsN W B (.slice a n c) vs RS) (hi : RS[i]? = some l) :
    ∃ g va vc, a = some ⟨g, 0, none⟩ ∧ W.cell? ⟨g, i, none⟩ = some (.slice va l.length vc) ∧ InN W va l := by
  have hil : i < vs.length := by rw [h.len]; exact (List.getElem?_eq_some_iff.1 hi).1
  have hu : vs[i]? = some vs[i] := List.getElem?_eq_getElem hil
  obtain ⟨va, vc, hv, _, _, hin⟩ := (h.row i _ l hu hi).slice
  rcases h.own.2 with ⟨_, h0⟩ | ⟨g, cap, cur, e, hb, hh, hc, hm, hsz, htk⟩
  · omega
  · cases e
    refine ⟨g, va, vc, rfl, ?_, hin⟩
    have h1 := hu
    rw [hv, ← htk, List.getElem?_take_of_lt (by omega)] at h1
    have := cell_of_row W g i cur 48 (0, 0) hh
    rw [this]
    simpa using h1
theorem wpList_appRowN {w : World} {B : Nat} {v u : Value} {vs : List Value} {RS : List (List Nat)} {l : List Nat} {ops : Array Oper} {rest : List Oper} {o : Oper} {a : Act} {Q : Exit → Act → World → Prop} (hgd : o.guard = none) (s x : Operand)
    (ho : o.op = .call { callee := .builtin .append, args := #[s, x], argTypes := #[47, 47] })
    (hs : a.eval s = v) (hown : RowsN w B v vs RS) (g cap : Nat) (hx : a.eval x = .slice (some ⟨g, 0, none⟩) 1 cap) (hnew : w.heap[g]? = some (.cells #[u] 48)) (hu : OwnN w B u l) (hap : ∀ k, u.ownBlock = some k → v.ownBlock ≠ some k)
    (m : Nat) (hm : RS.length = m) (hlen : m + 1 ≤ 1000000000000) (hB : B ≤ w.heap.size)
    (h : ∀ g' cap' w', RowsN w' B (.slice (some ⟨g', 0, none⟩) (m + 1) cap') (vs ++ [u]) (RS ++ [l]) → w.grownBy w' v.ownBlock → (v.ownBlock = some g' ∨ g' = w.heap.size) → g' < w'.heap.size → wpList Tryz.prog ops Q rest (a.put o.dst (.slice (some ⟨g', 0, none⟩) (m + 1) cap')) w') :
    wpList Tryz.prog ops Q (o :: rest) a w := by
  have hvm : vs.length = m := by rw [hown.len]; exact hm
  subst hvm
  obtain ⟨i, hi, hz, hsz, hby⟩ := info_parts infoRow
  obtain ⟨ua, uc, hue, _⟩ := hu.slice
  refine wpList_append_lies (P := Tryz.prog) w hgd s x 47 ho B 48 i (.slice none 0 0) 1 24 Tryz.underlying47 hi hz hsz hby rfl (by decide) v vs.length vs hs hown.own
    ⟨g, 0, none⟩ 1 cap [u] hx rfl (World.news_of_block (fr := (0, 0)) hnew) (by intro q hq; simp at hq; subst hq; rw [hue]; rfl) (by decide) (by unfold maxLen; omega) (by omega) hB _ rfl ?_
  intro g' cap' w' h2 h3 hat hlt
  have hgl : ∀ (i : Nat) q k, vs[i]? = some q → q.ownBlock = some k → k ≠ g' := fun i q k hq hk e => by
    obtain ⟨lq, _, hoq⟩ := hown.at hq
    rcases hat with h4 | h4
    · exact hown.apart i q k hq hk (by rw [h4, e])
    · have := (hoq.lt hk).2; omega
  have hul : ∀ k, u.ownBlock = some k → k ≠ g' := fun k hk e => by
    rcases hat with h4 | h4
    · exact hap k hk (by rw [h4, e])
    · have := (hu.lt hk).2; omega
  refine h g' cap' w' ⟨by rw [List.length_append]; exact h2, by rw [List.length_append, List.length_append, hown.len]; rfl, fun i q lq hq hl => ?_, fun i q k hq hk => ?_⟩ h3 hat hlt
  · by_cases hi2 : i < vs.length
    · rw [List.getElem?_append_left hi2] at hq
      rw [List.getElem?_append_left (by rw [← hown.len]; exact hi2)] at hl
      have hoq := hown.row i q lq hq hl
      exact hoq.keep (fun k hk => h3.block k (hoq.lt hk).2 (fun e => hown.apart i q k hq hk e.symm))
    · rw [List.getElem?_append_right (by omega)] at hq
      rw [List.getElem?_append_right (by rw [← hown.len]; omega)] at hl
      have hi3 : i - vs.length = 0 := by
        have := (List.getElem?_eq_some_iff.1 hq).1
        simp at this
        omega
      rw [hi3] at hq
      rw [← hown.len, hi3] at hl
      cases hq
      cases hl
      exact hu.keep (fun k hk => h3.block k (hu.lt hk).2 (fun e => hap k hk e.symm))
  · intro e
    have e2 : g' = k := by cases e; rfl
    by_cases hi2 : i < vs.length
    · rw [List.getElem?_append_left hi2] at hq
      exact hgl i q k hq hk e2.symm
    · rw [List.getElem?_append_right (by omega)] at hq
      have hi3 : i - vs.length = 0 := by
        have := (List.getElem?_eq_some_iff.1 hq).1
        simp at this
        omega
      rw [hi3] at hq
      cases hq
      exact hul k hk e2.symm
theorem rows_get (ns : List (List UInt8)) : ∀ (aa : List (List (List UInt8))) (k i : Nat), (P28.rows ns k aa)[i]? = aa[i]?.map (P28.row ns (k + i))
  | [], k, i => by simp [P28.rows]
  | a :: aa, k, 0 => by simp [P28.rows]
  | a :: aa, k, i + 1 => by
    unfold P28.rows
    rw [List.getElem?_cons_succ, List.getElem?_cons_succ, rows_get ns aa (k + 1) i, show k + 1 + i = k + (i + 1) by omega]
set_option maxRecDepth 100000 in
set_option maxHeartbeats 8000000 in
theorem RRefs_any (d : PDef) (w : World) (hin : d.In w) (hl : d.steps.length ≤ 100000) (haf : ∀ s ∈ d.steps, s.after.length ≤ 1000000) :
    Calls Tryz.prog 70 #[d.val] w fun e w' => ∃ v vs, e = .returned v ∧ RowsN w' w.heap.size v vs (P28.refs d.bare) ∧ Below w.heap.size w w' := by
  obtain ⟨H, hH⟩ : ∃ H, w.heap.size = H := ⟨_, rfl⟩
  rw [hH]
  obtain ⟨W1, hW1, hb1, g0, hs1⟩ := new1 w (defO d) H hH
  have hinV : ∀ V, Below (H + 1) W1 V → d.In V := fun V hV => hin.below (by rw [hH]; exact hb1.trans (hV.mono (by omega)))
  have hbx : ∀ V, Below (H + 1) W1 V → V.heap[H]? = some (defO d) := fun V hV => (hV.block H (by omega)).trans g0
  have hix := fun (x : List UInt8) (V : World) (hV : Below (H + 1) W1 V) => RIndex_any d x V (hinV V hV) (by omega)
  obtain ⟨RS, hRS⟩ : ∃ RS, P28.refs d.bare = RS := ⟨_, rfl⟩
  have hget : ∀ i s, d.steps[i]? = some s → RS[i]? = some (P28.row (d.steps.map PSt.name) i s.after) := fun i s hs => by
    rw [← hRS]
    unfold P28.refs
    rw [rows_get]
    simp [P28.afters, P28.names, PDef.bare, PSt.bare, hs]
    rfl
  have hrl : RS.length = d.steps.length := by rw [← hRS, P28.refs_len]; simp [PDef.bare]
  rw [hRS]
  obtain ⟨ns, hns⟩ : ∃ ns, d.steps.map PSt.name = ns := ⟨_, rfl⟩
  rw [hns] at hget hix
  obtain ⟨nm, tx, sa, sc, ss⟩ := d
  obtain ⟨N, hN⟩ : ∃ N, ss.length = N := ⟨_, rfl⟩
  unfold defO at hW1 hbx g0
  unfold PDef.val at hix ⊢
  simp only [hN] at hW1 hbx g0 hl hrl hget haf hix ⊢
  obtain ⟨⟨k0, _⟩, ⟨k1, _⟩, ⟨k2, _⟩⟩ := cell3 g0
  have HIN := hide hinV
  have HBX := hide hbx
  have HIX := hide hix
  have HW1 := hide hW1
  have HB1 := hide hb1
  have HGET := hide hget
  have HN := hide hN
  have HAF := hide haf
  have HRL := hide hrl
  have HS1 := hide hs1
  clear hinV hbx hix hW1 hb1 hRS hN g0 hin hget haf hrl hns hs1
  go_enter Tryz.func70, Tryz.ntmps70
  go_upto_region 1 with fail
  try rw [hH]
  rw [unhide HW1]
  go_wp2
  go_loopg [3, 4] N (fun g s3 s4 wx => ∃ (i : Nat) (v : Value) (vs : List Value), i + g = N ∧ s4 = .int .i64 i ∧ s3 = v ∧ Hid (RowsN wx (H + 1) v vs (RS.take i)) ∧ Hid (Below (H + 1) W1 wx))
  case atStart => exact ⟨0, _, [], by omega, by go_num, rfl, hide (RowsN.nil _ _), hide (Below.refl _ _)⟩
  case round =>
    obtain ⟨i, v, vs, hig, rfl, rfl, HR, HX⟩ := hrel
    clear k0 k1 k2
    obtain ⟨⟨k0, _⟩, ⟨k1, _⟩, ⟨k2, _⟩⟩ := cell3 (unhide HBX wr (unhide HX))
    cases gk with
    | zero =>
      have e1 : (N : Int) ≤ (i : Int) := by omega
      have j1 : decide ((i : Int) < (N : Int)) = false := by simp; omega
      have hfin := unhide HR
      rw [List.take_of_length_le (by rw [unhide HRL]; omega)] at hfin
      have HF := hide hfin
      clear hfin
      go_wp2
      go_ret
      exact ⟨_, _, rfl, (unhide HF).base (by omega), (unhide HB1).trans ((unhide HX).mono (by omega))⟩
    | succ g' =>
      have hlt : (i : Int) < (N : Int) := by omega
      have hki : IntKind.i64.wrap ((i : Int) + 1) = (i : Int) + 1 := IntWalk.i64_in _ (by omega)
      obtain ⟨s, hs⟩ := nth_of (unhide HN) (show i < N by omega)
      obtain ⟨K, hK⟩ : ∃ K, wr.heap.size = K := ⟨_, rfl⟩
      have hHK : H + 1 ≤ K := by have := (unhide HX).size; rw [unhide HS1] at this; omega
      obtain ⟨va, vc, hv⟩ := (unhide HR).form
      have hrt : (RS.take i).length = i := by rw [List.length_take, unhide HRL]; omega
      rw [hrt] at hv
      subst hv
      have hgi := unhide HGET i s hs
      have hA0 := unhide HAF s (List.mem_of_getElem? hs)
      obtain ⟨A, hA⟩ : ∃ A, s.after.length = A := ⟨_, rfl⟩
      rw [hA] at hA0
      obtain ⟨⟨b1, o1, hsa, _⟩, _⟩ := (unhide HIN wr (unhide HX)).steps i s hs
      simp only at hsa
      subst hsa
      have hcell : ∀ V, Below (H + 1) W1 V → V.cell? ⟨b1, o1 + i * 13 + 3, none⟩ = some (.slice s.aa A s.ac) ∧ InS V s.aa s.after := fun V hV => by
        obtain ⟨⟨b2, o2, e2, hat⟩, hsin⟩ := (unhide HIN V hV).steps i s hs
        cases e2
        have c3 := (step_cells hat).1.2.2.2
        unfold PSt.aV at c3
        rw [hA] at c3
        exact ⟨c3, hsin.keys⟩
      have HCELL := hide hcell
      have HGI := hide hgi
      have HRT := hide hrt
      have HA := hide hA
      have HK := hide hK
      clear hgi hs hrt hA hK hcell
      go_wp2
      go_loopg [5, 6] A (fun g2 s5 s6 wy => ∃ (k : Nat) (u : Value) (l : List Nat), k + g2 = A ∧ s6 = .int .i64 k ∧ s5 = u ∧ Hid (OwnN wy K u l) ∧ Hid ((s.after.take k).foldl (fun l x => P28.addTo i l (P28.idx ns x)) [] = l) ∧ Hid (Below K wr wy))
      case atStart => exact ⟨0, _, [], by omega, by go_num, rfl, hide (OwnN.nil _ _), hide rfl, hide (Below.refl _ _)⟩
      case round =>
        obtain ⟨k, u, l, hkg, rfl, rfl, HU, HL, HY⟩ := hrel
        have hbx2 := (unhide HX).trans ((unhide HY).mono hHK)
        clear k0 k1 k2
        obtain ⟨⟨k0, _⟩, ⟨k1, _⟩, ⟨k2, _⟩⟩ := cell3 (unhide HBX wr hbx2)
        obtain ⟨c3, hins⟩ := unhide HCELL wr hbx2
        obtain ⟨ua, uc, hu, _, _, hinu⟩ := (unhide HU).slice
        obtain ⟨LL, hLL⟩ : ∃ LL, l.length = LL := ⟨_, rfl⟩
        have hLA : LL ≤ A := by
          have := row_len ns i (s.after.take k) []
          rw [unhide HL, List.length_take, unhide HA, hLL] at this
          simp at this
          omega
        rw [hLL] at hu
        subst hu
        have HLL := hide hLL
        have HBX2 := hide hbx2
        clear hLL hbx2
        cases gk with
        | zero =>
          have e2 : (A : Int) ≤ (k : Int) := by omega
          have j2 : decide ((k : Int) < (A : Int)) = false := by simp; omega
          have hrow : P28.row ns i s.after = l := by
            have := unhide HL
            rw [List.take_of_length_le (by rw [unhide HA]; omega)] at this
            exact this
          have hgi := unhide HGI
          rw [hrow] at hgi
          have HT1 : Hid (RS.take (i + 1) = RS.take i ++ [l]) := hide (by rw [List.take_add_one, hgi]; rfl)
          obtain ⟨W2, hW2, hb2, g2, hs2⟩ := new1 wr (.cells #[.slice ua LL uc] 48) wr.heap.size rfl
          have hKW : K ≤ wr.heap.size := by have := (unhide HY).size; rw [unhide HK] at this; exact this
          have HY2 := hide ((unhide HY).trans (hb2.mono hKW))
          have HU2 := hide ((unhide HU).keep (W' := W2) (fun g hg => hb2.block g ((unhide HU).lt hg).2))
          have HR2 := hide ((unhide HR).keep (W' := W2) (fun g hg => (unhide HY2).block g (by rw [← unhide HK]; exact hg)))
          have hap : ∀ q, (Value.slice ua LL uc).ownBlock = some q → (Value.slice va i vc).ownBlock ≠ some q := fun q hq e => by
            have h1 := ((unhide HU).lt hq).1
            have h2 := (own_block_lt (unhide HR).own q e).2
            rw [unhide HK] at h2
            omega
          have hWs : H + 1 ≤ W2.heap.size := by omega
          have HG2 := hide g2
          have HW2 := hide hW2
          have HAP := hide hap
          clear hgi hrow hW2 hb2 g2 hap hinu
          go_wp2_with (rw [unhide HW2]; refine wpList_appRowN (by rfl) _ _ (by rfl) (by rfl) (unhide HR2) wr.heap.size 1 (by rfl) (unhide HG2) ((unhide HU2).base hHK) (unhide HAP) i (unhide HRT) (by omega) hWs ?_; intro g3 cap3 w3 hown3 hgrow hat hlt3; have HO4 := hide hown3; have HB4 := hide (((unhide HX).trans ((unhide HY2).mono hHK)).grown hgrow hWs (fun q hq => (own_block_lt (unhide HR).own q hq).1)); clear hown3 hgrow hat hlt3)
          go_roundg g'
          case measure => omega
          case rel => exact ⟨i + 1, _, _, by omega, by go_num, rfl, hide (by rw [unhide HT1]; exact unhide HO4), HB4⟩
        | succ g2 =>
          have hlt2 : (k : Int) < (A : Int) := by omega
          have hkk : IntKind.i64.wrap ((k : Int) + 1) = (k : Int) + 1 := IntWalk.i64_in _ (by omega)
          obtain ⟨x, hx⟩ := nth_of (unhide HA) (show k < A by omega)
          obtain ⟨rb, ro, hra, cx⟩ := hins k x hx
          rw [hra] at c3
          have hfold : (s.after.take (k + 1)).foldl (fun l x => P28.addTo i l (P28.idx ns x)) [] = P28.addTo i l (P28.idx ns x) := by
            rw [List.take_add_one, hx, Option.toList_some, List.foldl_append, unhide HL]
            rfl
          obtain ⟨J, hJ⟩ : ∃ J, P28.idx ns x = J := ⟨_, rfl⟩
          rw [hJ] at hfold
          have hixx := fun V hV => unhide HIX x V hV
          rw [hJ] at hixx
          have HIXX := hide hixx
          have HFO := hide hfold
          clear hfold hixx hx hra hins hJ
          go_upto_region 9 with fail
          refine wp_region_tail 10 (by kernel_rfl) (by kernel_rfl) (by kernel_rfl) (by kernel_rfl) (by kernel_rfl) ?_
          simp only [List.take_succ_cons, List.take_zero, List.drop_succ_cons, List.drop_zero]
          repeat (go_big_quiet_step (fail))
          refine wpQuiet_nil ?_
          intro _ hw'
          obtain ⟨nq, hw''⟩ := hw'
          subst hw''
          go_upto_region 10 with (go_at_call 118; refine ((unhide HIXX) _ ((unhide HBX2).trans (below_drewN (Below.refl _ _)))).mono ?_; rintro e w2 ⟨rfl, hb2⟩)
          have hKW : K ≤ wr.heap.size := by have := (unhide HY).size; rw [unhide HK] at this; exact this
          have hby2 : Below K wr w2 := (below_drewN (Below.refl _ _)).trans (hb2.mono (by simpa using hKW))
          have HY2 := hide ((unhide HY).trans hby2)
          have hu2 : OwnN w2 K (.slice ua LL uc) l := (unhide HU).keep (fun g hg => hb2.block g ((unhide HU).lt hg).2)
          have HU2 := hide hu2
          have hsz2 := (unhide HY2).size
          rw [unhide HK] at hsz2
          clear hb2 hby2 hinu k0 k1 k2 c3 cx
          rcases J with _ | j
          · have e0 : toV none = -1 := rfl
            rw [e0]
            go_wp2
            go_roundg g2
            case measure => omega
            case rel => exact ⟨k + 1, _, _, by omega, by go_num, rfl, HU2, hide (unhide HFO), HY2⟩
          · have e0 : toV (some j) = (j : Int) := rfl
            rw [e0]
            clear e0
            by_cases hji : j = i
            · obtain rfl := hji
              have HFI : Hid (P28.addTo j l (some j) = l) := hide (by simp [P28.addTo])
              go_wp2
              go_roundg g2
              case measure => omega
              case rel => exact ⟨k + 1, _, _, by omega, by go_num, rfl, HU2, hide ((unhide HFO).trans (unhide HFI)), HY2⟩
            · have hne : ((j : Int) != (i : Int)) = true := by simp; omega
              have h0 : (0 : Int) ≤ (j : Int) := by omega
              obtain ⟨ua2, uc2, hu3, _, _, hin2⟩ := hu2.slice
              rw [unhide HLL] at hu3
              cases hu3
              have hhas := Has_any ua uc l j w2 hin2 (by rw [unhide HLL]; omega)
              rw [unhide HLL] at hhas
              clear hu2 hin2
              by_cases hm : j ∈ l
              · rw [decide_eq_true hm] at hhas
                have HHAS := hide hhas
                have HFI : Hid (P28.addTo i l (some j) = l) := hide (by simp [P28.addTo, hm])
                clear hm hhas
                go_wp2_with (go_at_call 31; refine (unhide HHAS).mono ?_; rintro e w3 ⟨rfl, hw⟩; have hw := hw.symm; subst hw)
                go_roundg g2
                case measure => omega
                case rel => exact ⟨k + 1, _, _, by omega, by go_num, rfl, HU2, hide ((unhide HFO).trans (unhide HFI)), HY2⟩
              · rw [decide_eq_false hm] at hhas
                have HHAS := hide hhas
                have HFI : Hid (P28.addTo i l (some j) = l ++ [j]) := hide (by simp [P28.addTo, hm, hji])
                obtain ⟨W2, hW2, hb2, gn, hs2⟩ := new1 w2 (.cells #[.int .i64 (j : Int)] 3) w2.heap.size rfl
                have HU3 := hide ((unhide HU2).keep (W' := W2) (fun g hg => hb2.block g ((unhide HU2).lt hg).2))
                have HY3 := hide ((unhide HY2).trans (hb2.mono hsz2))
                have hKW2 : K ≤ W2.heap.size := by omega
                have HW2 := hide hW2
                have HGN := hide gn
                clear hm hhas hW2 hb2 gn
                go_wp2_with (first | (go_at_call 31; refine (unhide HHAS).mono ?_; rintro e w3 ⟨rfl, hw⟩; have hw := hw.symm; subst hw) | (rw [unhide HW2]; refine wpList_appNat (by rfl) _ _ (by rfl) (by rfl) (unhide HU3) w2.heap.size 1 (by rfl) (unhide HGN) LL (unhide HLL) (by omega) hKW2 ?_; intro g3 cap3 w4 hown3 hgrow hat hlt3; have HO4 := hide hown3; have HB4 := hide ((unhide HY3).grown hgrow hKW2 (fun q hq => ((unhide HU3).lt hq).1)); clear hown3 hgrow hat hlt3))
                go_roundg g2
                case measure => omega
                case rel => exact ⟨k + 1, _, _, by omega, by go_num, rfl, HO4, hide ((unhide HFO).trans (unhide HFI)), HB4⟩
end Go.Proofs.YtefokfbgpfcbkaaGreat
namespace Go.Proofs.YtefokfbgpfcbkaaGreat
set_option linter.unusedVariables false
set_option linter.unusedSimpArgs false
open Go.RowKit
set_option maxRecDepth 100000 in
set_option maxHeartbeats 4000000 in
theorem RMay_any (B H N i c : Nat) (a : Option Addr) (vs : List Value) (RS : List (List Nat)) (l : List Nat) (th : Nat → Bool) (w : World) (hg : RowsN w B (.slice a N c) vs RS) (hN : RS.length = N) (hi : RS[i]? = some l) (hlt : ∀ x ∈ l, x < N)
    (hr : w.rowIs H 4 N (fun j => .bool (th j))) (hN9 : N ≤ 100000) (hl9 : l.length ≤ 1000000) :
    Calls Tryz.prog 155 #[.slice a N c, .slice (some ⟨H, 0, none⟩) N N, .int .i64 i] w fun e w' => e = .returned (.bool (l.all th)) ∧ w' = w := by
  have hiN : i < N := by rw [← hN]; exact (List.getElem?_eq_some_iff.1 hi).1
  obtain ⟨g, va, vc, rfl, hc, hin⟩ := hg.get hi
  obtain ⟨L, hL⟩ : ∃ L, l.length = L := ⟨_, rfl⟩
  rw [hL] at hc hl9
  obtain ⟨RES, hR⟩ : ∃ R, l.all th = R := ⟨_, rfl⟩
  rw [hR]
  have HIN := hide hin
  have HLT := hide hlt
  have HR := hide hr
  have HL := hide hL
  have HRES := hide hR
  clear hin hlt hr hL hR hg hi hN
  go_enter Tryz.func155, Tryz.ntmps155
  go_wp2
  go_loopg [7] L (fun q s7 wx => ∃ k : Nat, k + q = L ∧ s7 = .int .i64 k ∧ w = wx ∧ Hid ((l.drop k).all th = RES))
  case atStart => exact ⟨0, by omega, by go_num, rfl, hide (by simpa using unhide HRES)⟩
  case round =>
    obtain ⟨k, hkq, rfl, hw, HK⟩ := hrel
    subst hw
    cases gk with
    | zero =>
      have e1 : (L : Int) ≤ (k : Int) := by omega
      have j1 : decide ((k : Int) < (L : Int)) = false := by simp; omega
      have e : RES = true := by
        have := unhide HK
        rw [List.drop_eq_nil_of_le (by rw [unhide HL]; omega)] at this
        exact this.symm
      subst e
      go_wp2
      go_ret
      exact ⟨rfl, rfl⟩
    | succ g' =>
      have hlt : (k : Int) < (L : Int) := by omega
      have hki : IntKind.i64.wrap ((k : Int) + 1) = (k : Int) + 1 := IntWalk.i64_in _ (by omega)
      obtain ⟨x, hx⟩ := nth_of (unhide HL) (show k < L by omega)
      obtain ⟨b2, o2, rfl, cx⟩ := unhide HIN k x hx
      unfold iv at cx
      have hxN := unhide HLT x (List.mem_of_getElem? hx)
      have hct := (unhide HR).cell hxN
      have hfz := (unhide HR).frozen x
      have h0 : (0 : Int) ≤ (x : Int) := by omega
      have h1 : (x : Int) < (N : Int) := by omega
      have hk := unhide HK
      rw [show l.drop k = x :: l.drop (k + 1) by
        obtain ⟨hl, e⟩ := List.getElem?_eq_some_iff.1 hx
        rw [List.drop_eq_getElem_cons hl, e], List.all_cons] at hk
      cases ht : th x with
      | true =>
        rw [ht] at hct hk
        rw [Bool.true_and] at hk
        have HK2 := hide hk
        clear hk ht hx
        go_wp2
        go_roundg g'
        case measure => omega
        case rel => exact ⟨k + 1, by omega, by go_num, rfl, HK2⟩
      | false =>
        rw [ht] at hct hk
        rw [Bool.false_and] at hk
        subst hk
        clear ht hx
        go_wp2
        go_ret
        exact ⟨rfl, rfl⟩
theorem orderGo_none {RS : List (List Nat)} {th : List Bool} {out : List Nat} (h : P28.next RS th = none) : ∀ g, P28.orderGo RS g th out = out
  | 0 => rfl
  | g + 1 => by rw [orderGo_succ, h]
set_option maxRecDepth 100000 in
set_option maxHeartbeats 4000000 in
theorem ROrder_any (B N c : Nat) (a : Option Addr) (vs : List Value) (RS : List (List Nat)) (w : World) (hg : RowsN w B (.slice a N c) vs RS) (hN : RS.length = N) (hlt : ∀ l ∈ RS, ∀ x ∈ l, x < N) (hN9 : N ≤ 100000) (hl9 : ∀ l ∈ RS, l.length ≤ 1000000) :
    Calls Tryz.prog 114 #[.slice a N c] w fun e w' => ∃ v, e = .returned v ∧ OwnN w' w.heap.size v (P28.order RS) ∧ Below w.heap.size w w' := by
  obtain ⟨H, hH⟩ : ∃ H, w.heap.size = H := ⟨_, rfl⟩
  have hmk := fun V => run_make_row' (P := Tryz.prog) 49 4 (.bool false) 1 Tryz.underlying49 infoBool rfl .i64 .i64 N (by omega) (by omega) V
  obtain ⟨W1, hW1, hb1, g0, hs1⟩ := new1 w (.cells (madeCells #[.bool false] N) 4) H hH
  have hord : P28.orderGo RS N (List.replicate N false) [] = P28.order RS := by unfold P28.order; rw [hN]
  obtain ⟨ORD, hORD⟩ : ∃ ORD, P28.order RS = ORD := ⟨_, rfl⟩
  rw [hORD] at hord
  have hO1 : OrI w W1 H N (List.replicate N false) [] (.slice none 0 0) := ⟨OwnN.nil _ _, ⟨_, g0, size_madeCells _ _, fun i hi => by simp [madeCells, hi, Nat.mod_one, List.getD_eq_getElem?_getD]⟩, by simp, hb1, by omega⟩
  have hmay := fun (V : World) (hV : Below H w V) (i : Nat) (l : List Nat) (hi : RS[i]? = some l) (th : List Bool) (hr : V.rowIs H 4 N (fun j => .bool (th.getD j false))) => RMay_any B H N i c a vs RS l (fun j => th.getD j false) V (hg.keep (fun g hgl => hV.block g (by rw [← hH]; exact hgl))) hN hi (hlt l (List.mem_of_getElem? hi)) hr hN9 (hl9 l (List.mem_of_getElem? hi))
  have hnx : ∀ th : List Bool, P28.nextFrom RS th N 0 = P28.next RS th := fun th => by unfold P28.next; rw [hN]
  have hmb : ∀ (th : List Bool) (i : Nat) (l : List Nat), RS[i]? = some l → P28.mayB RS th i = l.all (fun j => th.getD j false) := fun th i l h => by unfold P28.mayB; rw [List.getD_eq_getElem?_getD, h]; rfl
  rw [hORD, hH]
  have HW1 := hide hW1
  have HORD := hide hord
  have HO1 := hide hO1
  have HMAY := hide hmay
  have HNX := hide hnx
  have HMB := hide hmb
  have HN := hide hN
  clear hW1 hord hO1 hmay hnx hmb hg hlt hl9 hb1 g0 hN hORD
  go_enter Tryz.func114, Tryz.ntmps114
  go_upto_region 2 with fail
  try rw [hH]
  rw [unhide HW1]
  go_wp2
  go_loopg [4, 5] N (fun g s4 s5 wx => ∃ (n : Nat) (th : List Bool) (out : List Nat) (v : Value), n + g = N ∧ s5 = .int .i64 n ∧ s4 = v ∧ out.length ≤ n ∧ Hid (OrI w wx H N th out v) ∧ Hid (P28.orderGo RS g th out = ORD))
  case atStart => exact ⟨0, _, [], _, by omega, by go_num, rfl, by simp, HO1, HORD⟩
  case round =>
    obtain ⟨n, th, out, v, hng, rfl, rfl, hon, HO, HG⟩ := hrel
    obtain ⟨va, vc, rfl, hv1, hv2, _⟩ := (unhide HO).own.slice
    cases gk with
    | zero =>
      have e1 : (N : Int) ≤ (n : Int) := by omega
      have j1 : decide ((n : Int) < (N : Int)) = false := by simp; omega
      have hfin : out = ORD := unhide HG
      have HFIN := hide hfin
      clear hfin hv1 hv2
      go_wp2
      go_ret
      have ho := unhide HO
      exact ⟨_, rfl, by rw [← unhide HFIN]; exact ho.own.base (by omega), ho.bel⟩
    | succ g' =>
      have hlt : (n : Int) < (N : Int) := by omega
      have hkn : IntKind.i64.wrap ((n : Int) + 1) = (n : Int) + 1 := IntWalk.i64_in _ (by omega)
      obtain ⟨NX, hNX⟩ : ∃ NX, P28.next RS th = NX := ⟨_, rfl⟩
      have hgo := unhide HG
      rw [orderGo_succ, hNX] at hgo
      have hn0 : P28.nextFrom RS th N 0 = NX := by rw [unhide HNX, hNX]
      have HGO := hide hgo
      have HN0 := hide hn0
      have HNXT := hide hNX
      clear hgo hn0 hNX HG
      go_wp2
      go_loopg [4, 6] N (fun g2 s4 s6 wy => ∃ (i : Nat), i + g2 = N ∧ s6 = .int .i64 i ∧ s4 = .slice va out.length vc ∧ Hid (OrI w wy H N th out (.slice va out.length vc)) ∧ Hid (P28.nextFrom RS th g2 i = NX))
      case atStart => exact ⟨0, by omega, by go_num, rfl, HO, HN0⟩
      case round =>
        obtain ⟨i, hig, rfl, rfl, HO2, HF⟩ := hrel
        cases gk with
        | zero =>
          have e2 : (N : Int) ≤ (i : Int) := by omega
          have j2 : decide ((i : Int) < (N : Int)) = false := by simp; omega
          have hnn : none = NX := unhide HF
          subst hnn
          have hfin : out = ORD := unhide HGO
          have HG2 : Hid (P28.orderGo RS g' th out = ORD) := hide (by rw [orderGo_none (unhide HNXT)]; exact hfin)
          clear hfin hv1 hv2
          go_wp2
          go_roundg g'
          case measure => omega
          case rel => exact ⟨n + 1, th, out, _, by omega, by go_num, rfl, by omega, HO2, HG2⟩
        | succ g2 =>
          have hlt2 : (i : Int) < (N : Int) := by omega
          have hki : IntKind.i64.wrap ((i : Int) + 1) = (i : Int) + 1 := IntWalk.i64_in _ (by omega)
          have hf := unhide HF
          rw [nextFrom_succ] at hf
          obtain ⟨l, hl⟩ : ∃ l, RS[i]? = some l := nth_of (unhide HN) (by omega)
          have hmb := unhide HMB th i l hl
          have ho := unhide HO2
          have hcell := ho.row.cell (i := i) (by omega)
          have hfz := ho.row.frozen i
          cases ht : th.getD i false with
          | true =>
            rw [ht] at hcell hf
            rw [if_neg (by simp)] at hf
            have HF2 := hide hf
            clear hf hmb ho hl hfz ht
            go_wp2
            go_roundg g2
            case measure => omega
            case rel => exact ⟨i + 1, by omega, by go_num, rfl, HO2, HF2⟩
          | false =>
            rw [ht] at hcell hf
            have hm := unhide HMAY wr ho.bel i l hl th ho.row
            rw [← hmb] at hm
            obtain ⟨mb, hmbv⟩ : ∃ mb, P28.mayB RS th i = mb := ⟨_, rfl⟩
            rw [hmbv] at hm hf
            have HMM := hide hm
            cases mb with
            | false =>
              rw [if_neg (by simp)] at hf
              have HF2 := hide hf
              clear hf hmb ho hl hfz ht hm hmbv
              go_wp2_with (go_at_call 155; refine (unhide HMM).mono ?_; rintro e w2 ⟨rfl, hw⟩; have hw := hw.symm; subst hw)
              go_roundg g2
              case measure => omega
              case rel => exact ⟨i + 1, by omega, by go_num, rfl, HO2, HF2⟩
            | true =>
              rw [if_pos ⟨rfl, rfl⟩] at hf
              subst hf
              have hgo2 : P28.orderGo RS g' (th.set i true) (out ++ [i]) = ORD := unhide HGO
              have HGO2 := hide hgo2
              clear hmb hl ht hm hmbv hgo2
              go_upto_region 10 with (go_at_call 155; refine (unhide HMM).mono ?_; rintro e w2 ⟨rfl, hw⟩; have hw := hw.symm; subst hw)
              have hz2 := ho.size
              obtain ⟨W3, hW3⟩ : ∃ W3, wr.setCell ⟨H, i, none⟩ (.bool true) = W3 := ⟨_, rfl⟩
              have hs3 : W3.heap.size = wr.heap.size := by rw [← hW3]; simp
              have hoth : ∀ g, g ≠ H → W3.heap[g]? = wr.heap[g]? := fun g hg => by rw [← hW3]; exact Below.heap_setCell _ _ _ _ hg
              have hb3 : Below H w W3 := by rw [← hW3]; exact ho.bel.setCell (p := ⟨H, i, none⟩) (Nat.le_refl H) _
              obtain ⟨W4, hW4, hb4, g4, hs4⟩ := new1 W3 (.cells #[.int .i64 i] 3) wr.heap.size hs3
              have hown4 : OwnN W4 (H + 1) (.slice va out.length vc) out := (ho.own.keep (fun g hg => hoth g (by have := (ho.own.lt hg).1; omega))).keep (fun g hg => hb4.block g (ho.own.lt hg).2)
              have hnH : (Value.slice va out.length vc).ownBlock ≠ some H := fun e => by have := (ho.own.lt e).1; omega
              have HW3 := hide hW3
              have HW4 := hide hW4
              have HB3 := hide hb3
              have HB4 := hide hb4
              have HG4 := hide g4
              have HOWN4 := hide hown4
              clear ho hW3 hW4 hoth hb3 hb4 g4 hown4
              go_upto_region 11 with fail
              rw [unhide HW3]
              clear hcell hfz
              go_wp2_with (rw [unhide HW4]; refine wpList_appNat (j := i) (by rfl) _ _ (by rfl) (by rfl) (unhide HOWN4) wr.heap.size 1 (by rfl) (unhide HG4) out.length rfl (by omega) (by omega) ?_; intro g5 cap5 w5 hown5 hgrow5 hat5 hlt5)
              have hnext := (unhide HO2).next (i := i) (V2 := w5) (by omega) hown5 (by rw [unhide HW3]; have := hgrow5.size; omega) (by rw [unhide HW3]; exact (hgrow5.block H (by omega) (fun e => hnH e.symm)).trans ((unhide HB4).block H (by omega)))
                ((((unhide HB3).trans ((unhide HB4).mono (by omega)))).grown hgrow5 (by omega) (fun k e => by have := ((unhide HOWN4).lt e).1; omega))
              have HNEXT := hide hnext
              clear hnext hown5 hgrow5 hat5
              go_roundg g'
              case measure => omega
              case rel => exact ⟨n + 1, _, _, _, by omega, by go_num, rfl, by simp; omega, HNEXT, HGO2⟩
end Go.Proofs.YtefokfbgpfcbkaaGreat
namespace Go.Proofs.YtefokfbgpfcbkaaGreat
set_option linter.unusedVariables false
set_option linter.unusedSimpArgs false
open Go.RowKit
theorem setH {W : World} {g o : Nat} {cs : Array Value} {T : TypeId} {v : Value} (h : W.heap[g]? = some (.cells cs T)) : (W.setCell ⟨g, o, none⟩ v).heap[g]? = some (.cells (cs.setIfInBounds o v) T) := by
  simp [World.setCell, Array.getElem?_modify, h]
theorem cellO {W : World} {g o : Nat} {cs : Array Value} {T : TypeId} {v : Value} (h : W.heap[g]? = some (.cells cs T)) (hv : cs[o]? = some v) : W.cell? ⟨g, o, none⟩ = some v := by
  rw [cell_of_row W g o cs T (0, 0) h]
  exact hv
structure RB (w V : World) (H : Nat) (a z : Obj) : Prop where
  old : V.heap[H]? = some a
  new : V.heap[H + 1]? = some z
  bel : Below H w V
set_option maxRecDepth 100000 in
set_option maxHeartbeats 8000000 in
theorem RReal_any (s : PSt) (w : World) : Calls Tryz.prog 154 #[s.val] w fun e w' => e = .returned s.real.val ∧ Below w.heap.size w w' := by
  obtain ⟨n, a, u, aa, ac, af, m, fi, fa, li, ⟨k, t, ka, kc, ks, da, dc, ds, l⟩⟩ := s
  unfold PSt.real
  rw [PSt.val_eqn, PSt.val_eqn]
  obtain ⟨N1, hN1⟩ : ∃ N1, af.length = N1 := ⟨_, rfl⟩
  obtain ⟨N2, hN2⟩ : ∃ N2, ks.length = N2 := ⟨_, rfl⟩
  obtain ⟨N3, hN3⟩ : ∃ N3, ds.length = N3 := ⟨_, rfl⟩
  rw [hN1, hN2, hN3]
  clear hN1 hN2 hN3
  simp only
  obtain ⟨H, hH⟩ : ∃ H, w.heap.size = H := ⟨_, rfl⟩
  obtain ⟨W1, hW1, hb1, g0, hs1⟩ := new1 w (.cells #[.string ⟨n.toArray⟩, .string ⟨a.toArray⟩, .string ⟨u.toArray⟩, .slice aa N1 ac, .int .i64 m, .int .i64 fi, .int .i64 fa, .int .i64 li, .int .u8 k, .string ⟨t.toArray⟩, .slice ka N2 kc, .slice da N3 dc, .int .i64 l] 63) H hH
  obtain ⟨W2, hW2, hb2, g1, hs2⟩ := new1 W1 (.cells #[.string ⟨#[]⟩, .string ⟨#[]⟩, .string ⟨#[]⟩, .slice none 0 0, .int .i64 0, .int .i64 0, .int .i64 0, .int .i64 0, .int .u8 0, .string ⟨#[]⟩, .slice none 0 0, .slice none 0 0, .int .i64 0] 63) (H + 1) hs1
  have HRB0 : Hid (RB w W2 H (.cells #[.string ⟨n.toArray⟩, .string ⟨a.toArray⟩, .string ⟨u.toArray⟩, .slice aa N1 ac, .int .i64 m, .int .i64 fi, .int .i64 fa, .int .i64 li, .int .u8 k, .string ⟨t.toArray⟩, .slice ka N2 kc, .slice da N3 dc, .int .i64 l] 63) (.cells #[.string ⟨#[]⟩, .string ⟨#[]⟩, .string ⟨#[]⟩, .slice none 0 0, .int .i64 0, .int .i64 0, .int .i64 0, .int .i64 0, .int .u8 0, .string ⟨#[]⟩, .slice none 0 0, .slice none 0 0, .int .i64 0] 63)) := hide ⟨(hb2.block H (by omega)).trans g0, g1, hb1.trans (hb2.mono (by omega))⟩
  obtain ⟨m', hm'⟩ : ∃ m', P28.meant m 1 = m' := ⟨_, rfl⟩
  obtain ⟨fa', hfa'⟩ : ∃ m', P28.meant fa 1 = m' := ⟨_, rfl⟩
  obtain ⟨li', hli'⟩ : ∃ m', P28.meant li 100 = m' := ⟨_, rfl⟩
  rw [hm', hfa', hli']
  have HW1 := hide hW1
  have HW2 := hide hW2
  have HM := hide hm'
  have HFA := hide hfa'
  have HLI := hide hli'
  clear hW1 hW2 g0 g1 hb1 hb2 hm' hfa' hli'
  go_enter Tryz.func154, Tryz.ntmps154
  go_upto_region 1 with fail
  try rw [hH]
  rw [unhide HW1]
  try rw [hs1]
  rw [unhide HW2]
  clear hs1 hs2
  have y4 := cellO (o := 4) (unhide HRB0).old rfl
  have f90 := (cell13 (unhide HRB0).old)
  obtain ⟨⟨_, f0⟩, ⟨_, f1⟩, ⟨_, f2⟩, ⟨_, f3⟩, ⟨_, f4⟩, ⟨_, f5⟩, ⟨_, f6⟩, ⟨_, f7⟩, _⟩ := f90
  go_upto_if 6 with fail
  go_cut [] from 3 to 8 (fun wx => Hid (RB w wx H (.cells #[.string ⟨n.toArray⟩, .string ⟨a.toArray⟩, .string ⟨u.toArray⟩, .slice aa N1 ac, .int .i64 m', .int .i64 fi, .int .i64 fa, .int .i64 li, .int .u8 k, .string ⟨t.toArray⟩, .slice ka N2 kc, .slice da N3 dc, .int .i64 l] 63) (.cells #[.string ⟨#[]⟩, .string ⟨#[]⟩, .string ⟨#[]⟩, .slice none 0 0, .int .i64 0, .int .i64 0, .int .i64 0, .int .i64 0, .int .u8 0, .string ⟨#[]⟩, .slice none 0 0, .slice none 0 0, .int .i64 0] 63)))
  case first =>
    by_cases hz : m = 0
    · subst hz
      have e : m' = 1 := by rw [← unhide HM]; rfl
      subst e
      go_wp2
      go_meet
      exact hide ⟨setH (unhide HRB0).old, (Below.heap_setCell _ _ _ _ (show H + 1 ≠ H by omega)).trans (unhide HRB0).new, (unhide HRB0).bel.setCell (p := ⟨H, 4, none⟩) (Nat.le_refl H) _⟩
    · have hzb : (m == 0) = false := by simp [hz]
      have e : m' = m := by rw [← unhide HM]; unfold P28.meant; rw [if_neg hz]
      subst e
      go_wp2
      go_meet
      exact HRB0
  case rest =>
  have HRB1 := hcut
  clear y4 f0 f1 f2 f3 f4 f5 f6 f7
  have y6 := cellO (o := 6) (unhide HRB1).old rfl
  have f91 := (cell13 (unhide HRB1).old)
  obtain ⟨⟨_, f0⟩, ⟨_, f1⟩, ⟨_, f2⟩, ⟨_, f3⟩, ⟨_, f4⟩, ⟨_, f5⟩, ⟨_, f6⟩, ⟨_, f7⟩, _⟩ := f91
  go_upto_if 12 with fail
  go_cut [] from 9 to 14 (fun wx => Hid (RB w wx H (.cells #[.string ⟨n.toArray⟩, .string ⟨a.toArray⟩, .string ⟨u.toArray⟩, .slice aa N1 ac, .int .i64 m', .int .i64 fi, .int .i64 fa', .int .i64 li, .int .u8 k, .string ⟨t.toArray⟩, .slice ka N2 kc, .slice da N3 dc, .int .i64 l] 63) (.cells #[.string ⟨#[]⟩, .string ⟨#[]⟩, .string ⟨#[]⟩, .slice none 0 0, .int .i64 0, .int .i64 0, .int .i64 0, .int .i64 0, .int .u8 0, .string ⟨#[]⟩, .slice none 0 0, .slice none 0 0, .int .i64 0] 63)))
  case first =>
    by_cases hz : fa = 0
    · subst hz
      have e : fa' = 1 := by rw [← unhide HFA]; rfl
      subst e
      go_wp2
      go_meet
      exact hide ⟨setH (unhide HRB1).old, (Below.heap_setCell _ _ _ _ (show H + 1 ≠ H by omega)).trans (unhide HRB1).new, (unhide HRB1).bel.setCell (p := ⟨H, 6, none⟩) (Nat.le_refl H) _⟩
    · have hzb : (fa == 0) = false := by simp [hz]
      have e : fa' = fa := by rw [← unhide HFA]; unfold P28.meant; rw [if_neg hz]
      subst e
      go_wp2
      go_meet
      exact HRB1
  case rest =>
  have HRB2 := hcut
  clear y6 f0 f1 f2 f3 f4 f5 f6 f7
  have y7 := cellO (o := 7) (unhide HRB2).old rfl
  have f92 := (cell13 (unhide HRB2).old)
  obtain ⟨⟨_, f0⟩, ⟨_, f1⟩, ⟨_, f2⟩, ⟨_, f3⟩, ⟨_, f4⟩, ⟨_, f5⟩, ⟨_, f6⟩, ⟨_, f7⟩, _⟩ := f92
  go_upto_if 17 with fail
  go_cut [] from 15 to 18 (fun wx => Hid (RB w wx H (.cells #[.string ⟨n.toArray⟩, .string ⟨a.toArray⟩, .string ⟨u.toArray⟩, .slice aa N1 ac, .int .i64 m', .int .i64 fi, .int .i64 fa', .int .i64 li', .int .u8 k, .string ⟨t.toArray⟩, .slice ka N2 kc, .slice da N3 dc, .int .i64 l] 63) (.cells #[.string ⟨#[]⟩, .string ⟨#[]⟩, .string ⟨#[]⟩, .slice none 0 0, .int .i64 0, .int .i64 0, .int .i64 0, .int .i64 0, .int .u8 0, .string ⟨#[]⟩, .slice none 0 0, .slice none 0 0, .int .i64 0] 63)))
  case first =>
    by_cases hz : li = 0
    · subst hz
      have e : li' = 100 := by rw [← unhide HLI]; rfl
      subst e
      go_wp2
      go_meet
      exact hide ⟨setH (unhide HRB2).old, (Below.heap_setCell _ _ _ _ (show H + 1 ≠ H by omega)).trans (unhide HRB2).new, (unhide HRB2).bel.setCell (p := ⟨H, 7, none⟩) (Nat.le_refl H) _⟩
    · have hzb : (li == 0) = false := by simp [hz]
      have e : li' = li := by rw [← unhide HLI]; unfold P28.meant; rw [if_neg hz]
      subst e
      go_wp2
      go_meet
      exact HRB2
  case rest =>
  have HRB3 := hcut
  clear y7 f0 f1 f2 f3 f4 f5 f6 f7
  obtain ⟨⟨c0, _⟩, ⟨c1, _⟩, ⟨c2, _⟩, ⟨c3, _⟩, ⟨c4, _⟩, ⟨c5, _⟩, ⟨c6, _⟩, ⟨c7, _⟩, ⟨c8, _⟩, ⟨c9, _⟩, ⟨c10, _⟩, ⟨c11, _⟩, ⟨c12, _⟩⟩ := cell13 (unhide HRB3).old
  obtain ⟨⟨_, f0⟩, ⟨_, f1⟩, ⟨_, f2⟩, ⟨_, f3⟩, ⟨_, f4⟩, ⟨_, f5⟩, ⟨_, f6⟩, ⟨_, f7⟩, ⟨_, f8⟩, ⟨_, f9⟩, ⟨_, f10⟩, ⟨_, f11⟩, ⟨_, f12⟩⟩ := cell13 (unhide HRB3).new
  go_wp2
  (try simp only [Exit.inBlock, Exit.then])
  refine bodyPost_ret (results_c1 rfl _ _ _ (H + 1) _ rfl (step_loadn (set13n (unhide HRB3).new _ _ _ _ _ _ _ _ _ _ _ _ _))) rfl ?_
  refine ⟨rfl, ?_⟩
  try rw [hH]
  have hHH : H ≤ H + 1 := by omega
  exact ((((((((((((((unhide HRB3).bel).setCell (p := ⟨H + 1, 0, none⟩) hHH _).setCell (p := ⟨H + 1, 1, none⟩) hHH _).setCell (p := ⟨H + 1, 2, none⟩) hHH _).setCell (p := ⟨H + 1, 3, none⟩) hHH _).setCell (p := ⟨H + 1, 4, none⟩) hHH _).setCell (p := ⟨H + 1, 5, none⟩) hHH _).setCell (p := ⟨H + 1, 6, none⟩) hHH _).setCell (p := ⟨H + 1, 7, none⟩) hHH _).setCell (p := ⟨H + 1, 8, none⟩) hHH _).setCell (p := ⟨H + 1, 9, none⟩) hHH _).setCell (p := ⟨H + 1, 10, none⟩) hHH _).setCell (p := ⟨H + 1, 11, none⟩) hHH _).setCell (p := ⟨H + 1, 12, none⟩) hHH _
end Go.Proofs.YtefokfbgpfcbkaaGreat
