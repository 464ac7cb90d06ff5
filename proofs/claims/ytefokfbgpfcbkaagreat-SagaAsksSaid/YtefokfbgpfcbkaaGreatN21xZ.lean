/- Lemmas of this claim (a part of its texts, kept as far as the claim reaches them). -/
import Derived.Test.YtefokfbgpfcbkaaGreatPlain28Z
import Derived.Lib.Bytealg
import Derived.Lib.Small
import Derived.Sort.Statements
import Derived.Shelf.SlSortCmp.Insertion
import Derived.Test.YtefokfbgpfcbkaaGreatInvZ
import Derived.Test.YtefokfbgpfcbkaaGreatN28xZ
import Derived.Test.YtefokfbgpfcbkaaGreatShelfZ
import Derived.Test.YtefokfbgpfcbkaaGreatShelfDZ
import Derived.Lib.LazyBuf
namespace Go.Proofs.YtefokfbgpfcbkaaGreat
set_option linter.unusedVariables false
set_option linter.unusedSimpArgs false
namespace P28
def ltS : Tx → Tx → Bool
  | [], [] => false
  | [], _ :: _ => true
  | _ :: _, [] => false
  | a :: x, b :: y => if a < b then true else if b < a then false else ltS x y
theorem ltS_cmp : ∀ x y : Tx, decide (Lib.compareBytes x y < 0) = ltS x y
  | [], [] => rfl
  | [], _ :: _ => rfl
  | _ :: _, [] => rfl
  | a :: x, b :: y => by
    unfold Lib.compareBytes ltS
    by_cases h : a < b
    · simp [h]
    · by_cases h2 : b < a
      · simp [h, h2]
      · simp [h, h2]; exact ltS_cmp x y
theorem ltS_irrefl : ∀ x : Tx, ltS x x = false
  | [] => rfl
  | a :: x => by unfold ltS; simp [ltS_irrefl x]
theorem ltS_trans : ∀ x y z : Tx, ltS x y = true → ltS y z = true → ltS x z = true
  | [], [], z, h, _ => by simp [ltS] at h
  | [], _ :: _, [], _, h => by simp [ltS] at h
  | [], _ :: _, _ :: _, _, _ => rfl
  | _ :: _, [], z, h, _ => by simp [ltS] at h
  | _ :: _, _ :: _, [], _, h => by simp [ltS] at h
  | a :: x, b :: y, c :: z, h1, h2 => by
    unfold ltS at h1 h2 ⊢
    by_cases hab : a < b
    · by_cases hbc : b < c
      · rw [if_pos (UInt8.lt_trans hab hbc)]
      · rw [if_neg hbc] at h2
        by_cases hcb : c < b
        · rw [if_pos hcb] at h2; cases h2
        · have e : b = c := UInt8.le_antisymm (UInt8.not_lt.1 hcb) (UInt8.not_lt.1 hbc)
          rw [← e, if_pos hab]
    · rw [if_neg hab] at h1
      by_cases hba : b < a
      · rw [if_pos hba] at h1; cases h1
      · have e : a = b := UInt8.le_antisymm (UInt8.not_lt.1 hba) (UInt8.not_lt.1 hab)
        rw [if_neg hba] at h1
        subst e
        by_cases hbc : a < c
        · rw [if_pos hbc]
        · rw [if_neg hbc] at h2 ⊢
          by_cases hcb : c < a
          · rw [if_pos hcb] at h2; cases h2
          · rw [if_neg hcb] at h2 ⊢
            exact ltS_trans x y z h1 h2
theorem ltS_total : ∀ x y : Tx, ltS x y = false → ltS y x = false → x = y
  | [], [], _, _ => rfl
  | [], _ :: _, h, _ => by simp [ltS] at h
  | _ :: _, [], _, h => by simp [ltS] at h
  | a :: x, b :: y, h1, h2 => by
    unfold ltS at h1 h2
    by_cases hab : a < b
    · rw [if_pos hab] at h1; cases h1
    · by_cases hba : b < a
      · rw [if_pos hba] at h2; cases h2
      · have e : a = b := UInt8.le_antisymm (UInt8.not_lt.1 hba) (UInt8.not_lt.1 hab)
        rw [if_neg hab, if_neg hba] at h1
        rw [if_neg hba, if_neg hab] at h2
        rw [e, ltS_total x y h1 h2]
def cmpN (x y : Note) : Int := if Lib.compareInt x.1 y.1 ≠ 0 then Lib.compareInt x.1 y.1 else if Lib.compareInt x.2.1 y.2.1 ≠ 0 then Lib.compareInt x.2.1 y.2.1 else Lib.compareBytes x.2.2 y.2.2
def ltN (x y : Note) : Bool := if x.1 < y.1 then true else if y.1 < x.1 then false else if x.2.1 < y.2.1 then true else if y.2.1 < x.2.1 then false else ltS x.2.2 y.2.2
theorem ltN_cmp (x y : Note) : Go.Proofs.ltOf cmpN x y = ltN x y := by
  unfold Go.Proofs.ltOf cmpN ltN Lib.compareInt
  by_cases h1 : x.1 < y.1
  · simp [h1]
  · by_cases h2 : y.1 < x.1
    · simp [h1, h2]
    · by_cases h3 : x.2.1 < y.2.1
      · simp [h1, h2, h3]
      · by_cases h4 : y.2.1 < x.2.1
        · simp [h1, h2, h3, h4]
        · simp only [h1, h2, h3, h4, gt_iff_lt, if_false, ne_eq, not_true_eq_false]
          exact ltS_cmp _ _
theorem ltN_irrefl (x : Note) : ltN x x = false := by unfold ltN; simp [ltS_irrefl]
theorem ltN_total (x y : Note) (h1 : ltN x y = false) (h2 : ltN y x = false) : x = y := by
  unfold ltN at h1 h2
  obtain ⟨a, b, c⟩ := x
  obtain ⟨a', b', c'⟩ := y
  simp only at h1 h2
  by_cases q1 : a < a'
  · rw [if_pos q1] at h1; cases h1
  · by_cases q2 : a' < a
    · rw [if_pos q2] at h2; cases h2
    · rw [if_neg q1, if_neg q2] at h1
      rw [if_neg q2, if_neg q1] at h2
      by_cases q3 : b < b'
      · rw [if_pos q3] at h1; cases h1
      · by_cases q4 : b' < b
        · rw [if_pos q4] at h2; cases h2
        · rw [if_neg q3, if_neg q4] at h1
          rw [if_neg q4, if_neg q3] at h2
          rw [ltS_total c c' h1 h2, show a = a' by omega, show b = b' by omega]
theorem ltN_trans (x y z : Note) (h1 : ltN x y = true) (h2 : ltN y z = true) : ltN x z = true := by
  unfold ltN at h1 h2 ⊢
  obtain ⟨a, b, c⟩ := x
  obtain ⟨a', b', c'⟩ := y
  obtain ⟨a2, b2, c2⟩ := z
  simp only at h1 h2 ⊢
  by_cases q1 : a < a2
  · rw [if_pos q1]
  · rw [if_neg q1]
    by_cases p1 : a < a'
    · by_cases p2 : a' < a2
      · omega
      · rw [if_neg p2] at h2
        rw [if_pos (by omega)] at h2
        cases h2
    · rw [if_neg p1] at h1
      by_cases p3 : a' < a
      · rw [if_pos p3] at h1; cases h1
      · rw [if_neg p3] at h1
        have e : a = a' := by omega
        subst e
        rw [if_neg q1] at h2
        by_cases q2 : a2 < a
        · rw [if_pos q2] at h2; cases h2
        · rw [if_neg q2] at h2 ⊢
          by_cases r1 : b < b2
          · rw [if_pos r1]
          · rw [if_neg r1]
            by_cases s1 : b < b'
            · by_cases s2 : b' < b2
              · omega
              · rw [if_neg s2, if_pos (by omega)] at h2; cases h2
            · rw [if_neg s1] at h1
              by_cases s3 : b' < b
              · rw [if_pos s3] at h1; cases h1
              · rw [if_neg s3] at h1
                have e : b = b' := by omega
                subst e
                rw [if_neg r1] at h2
                by_cases r2 : b2 < b
                · rw [if_pos r2] at h2; cases h2
                · rw [if_neg r2] at h2 ⊢
                  exact ltS_trans c c' c2 h1 h2
theorem cmpN_swo : Go.Sort.SWO (Go.Proofs.ltOf cmpN) where
  irrefl := fun x => by rw [ltN_cmp]; exact ltN_irrefl x
  trans := fun x y z h1 h2 => by rw [ltN_cmp] at h1 h2 ⊢; exact ltN_trans x y z h1 h2
  ntrans := fun x y z h1 h2 => by
    rw [ltN_cmp] at h1 h2 ⊢
    cases h : ltN x z with
    | false => rfl
    | true =>
      -- y is neither above x nor below z
      cases hyx : ltN y x with
      | true => rw [ltN_trans y x z hyx h] at h2; cases h2
      | false =>
        have e := ltN_total x y h1 hyx
        subst e
        rw [h] at h2; cases h2
end P28
end Go.Proofs.YtefokfbgpfcbkaaGreat
namespace Go.Proofs.YtefokfbgpfcbkaaGreat
set_option linter.unusedVariables false
set_option linter.unusedSimpArgs false
open Go.RowKit Go.Sort
namespace P28
def onceN (l : List Note) : List Note := l.foldl (fun acc x => if x ∈ acc then acc else acc ++ [x]) []
def sortN (l : List Note) : List Note := (onceN l).mergeSort fun x y => !(Go.Proofs.ltOf cmpN) y x
theorem once_snoc (l : List Note) (x : Note) : onceN (l ++ [x]) = if x ∈ onceN l then onceN l else onceN l ++ [x] := by
  unfold onceN
  rw [List.foldl_append]
  rfl
theorem foldl_once_mem : ∀ (l acc : List Note) (x : Note), x ∈ l.foldl (fun acc x => if x ∈ acc then acc else acc ++ [x]) acc ↔ x ∈ acc ∨ x ∈ l
  | [], acc, x => by simp
  | y :: l, acc, x => by
    rw [List.foldl_cons, foldl_once_mem l]
    by_cases h : y ∈ acc
    · rw [if_pos h]
      simp only [List.mem_cons]
      constructor
      · rintro (a | a)
        · exact .inl a
        · exact .inr (.inr a)
      · rintro (a | a | a)
        · exact .inl a
        · exact .inl (a ▸ h)
        · exact .inr a
    · rw [if_neg h]
      simp only [List.mem_append, List.mem_cons, List.not_mem_nil, or_false]
      constructor
      · rintro ((a | a) | a)
        · exact .inl a
        · exact .inr (.inl a)
        · exact .inr (.inr a)
      · rintro (a | a | a)
        · exact .inl (.inl a)
        · exact .inl (.inr a)
        · exact .inr a
theorem once_mem (l : List Note) (x : Note) : x ∈ onceN l ↔ x ∈ l := by
  unfold onceN
  rw [foldl_once_mem]
  simp
theorem once_len (l : List Note) : (onceN l).length ≤ l.length := by
  have h : ∀ (l acc : List Note), (l.foldl (fun acc x => if x ∈ acc then acc else acc ++ [x]) acc).length ≤ acc.length + l.length := by
    intro l
    induction l with
    | nil => intro acc; simp
    | cons y l ih =>
      intro acc
      rw [List.foldl_cons]
      refine Nat.le_trans (ih _) ?_
      split <;> simp <;> omega
  have h0 := h l []
  rw [List.length_nil, Nat.zero_add] at h0
  exact h0
theorem sort_nil (l : List Note) : sortN l = [] ↔ l = [] := by
  unfold sortN
  constructor
  · intro h
    have h1 : (onceN l).length = 0 := by
      rw [← List.length_mergeSort (le := fun x y => !(Go.Proofs.ltOf cmpN) y x) (onceN l), h]; rfl
    cases l with
    | nil => rfl
    | cons x l =>
      have : x ∈ onceN (x :: l) := (once_mem _ _).2 (by simp)
      rw [List.length_eq_zero_iff.1 h1] at this
      cases this
  · rintro rfl
    exact List.mergeSort_nil
end P28
theorem OwnT.base {W : World} {B B' : Nat} {v : Value} {ns : List P28.Note} (h : OwnT W B v ns) (hB : B' ≤ B) : OwnT W B' v ns := by
  refine ⟨h.1, ?_⟩
  rcases h.2 with h | ⟨g, cap, cur, h1, h2, h3⟩
  · exact .inl h
  · exact .inr ⟨g, cap, cur, h1, by omega, h3⟩
theorem nCells_get (ns : List P28.Note) (t : Nat) (h : t < ns.length * 3) : (nCells ns)[t]? = some ((noteV ns.toArray[t / 3]!)[t % 3]!) := by
  induction ns generalizing t with
  | nil => simp at h
  | cons n ns ih =>
    have e : nCells (n :: ns) = noteV n ++ nCells ns := by simp [nCells]
    rw [e]
    have hl : (noteV n).length = 3 := rfl
    by_cases ht : t < 3
    · rw [List.getElem?_append_left (by rw [hl]; exact ht)]
      rcases t with _ | _ | _ | t
      · rfl
      · rfl
      · rfl
      · omega
    · rw [List.getElem?_append_right (by rw [hl]; omega), hl, ih (t - 3) (by simp at h; omega)]
      have h1 : t / 3 = (t - 3) / 3 + 1 := by omega
      have h2 : t % 3 = (t - 3) % 3 := by omega
      rw [h1, h2]
      congr 3
      simp only [List.getElem!_toArray]
      simp
theorem holdsK_of_own {W : World} {B g cap n : Nat} {ns : List P28.Note} (h : OwnT W B (.slice (some ⟨g, 0, none⟩) n cap) ns) : HoldsK noteV 3 W g 0 ns.toArray := by
  intro t ht
  have ht' : t < ns.length * 3 := by simpa using ht
  rcases h.2 with ⟨e0, _⟩ | ⟨g', cap', cur, e0, hb, hg, hn, hm, hs, hx⟩
  · cases e0
  · injection e0 with e1 _ e3
    injection e1 with e1
    injection e1 with e1
    subst e1 e3
    refine ⟨?_, by simp [World.frozen?, hg]⟩
    have e1 : (cur.toList.take (ns.length * 3))[t]? = (nCells ns)[t]? := by rw [hx]
    rw [List.getElem?_take, if_pos ht', Array.getElem?_toList, nCells_get ns t ht'] at e1
    simp only [World.cell?, hg, Nat.zero_add]
    simp only [Option.isSome_none, Bool.false_eq_true, if_false]
    rw [e1, get_flatK _ _ _ _ (by simpa using ht')]
    rfl
theorem own_sorted {W : World} {B g cap n q : Nat} {ns ys : List P28.Note} {os : Array Obj} (h : OwnT W B (.slice (some ⟨g, 0, none⟩) n cap) ns) (hy : ys.length = ns.length) : OwnT (sortWorldK noteV 3 W g 0 q ys.toArray os) B (.slice (some ⟨g, 0, none⟩) n cap) ys := by
  rcases h.2 with ⟨e0, _⟩ | ⟨g', cap', cur, e0, hb, hg, hn, hm, hs, hx⟩
  · cases e0
  · injection e0 with e1 e2 e3
    injection e1 with e1
    injection e1 with e1
    subst e1 e2 e3
    have hlt : g < W.heap.size := (Array.getElem?_eq_some_iff.1 hg).1
    refine ⟨nCells_len ys, .inr ⟨g, cap, putCells id 0 (flatK noteV 3 ys.toArray) cur, by rw [hy], hb, ?_, by omega, hm, by simpa [putCells] using hs, ?_⟩⟩
    · have h1 : (putRowK noteV 3 (Sort.ahead W q) g 0 ys.toArray).heap[g]? = some (.cells (putCells id 0 (flatK noteV 3 ys.toArray) cur) 183 (0, 0)) := by
        simp [putRowK, putRow, mapBlock, Sort.ahead, Array.getElem?_modify, hg, onCells]
      unfold sortWorldK
      have h2 : g < (putRowK noteV 3 (Sort.ahead W q) g 0 ys.toArray).heap.size := (Array.getElem?_eq_some_iff.1 h1).1
      rw [← h1]
      simp only [grow]
      rw [Array.getElem?_append_left h2]
    · apply List.ext_getElem?
      intro j
      rw [List.getElem?_take, Array.getElem?_toList]
      by_cases hj : j < ys.length * 3
      · have hjc : j < cur.size := by rw [hs]; omega
        simp only [if_pos hj, putCells, Array.getElem?_mapIdx, Array.getElem?_eq_getElem hjc, Option.map_some]
        rw [if_pos (by simp; omega), nCells_get ys j hj, Nat.sub_zero, get_flatK _ _ _ _ (by simpa using hj)]
        rfl
      · rw [if_neg hj, List.getElem?_eq_none (by rw [nCells_len]; omega)]
theorem below_sorted {W w0 : World} {B g q : Nat} {ys : Array P28.Note} {os : Array Obj} (h : Below B w0 W) (hg : B ≤ g) (hB : B ≤ W.heap.size) : Below B w0 (sortWorldK noteV 3 W g 0 q ys os) := by
  refine ⟨h.os, h.tape, h.output, ?_, fun k hk => ?_⟩
  · have := h.size
    simp [sortWorldK, grow, putRowK, putRow, mapBlock, Sort.ahead]
    omega
  · rw [← h.block k hk]
    have hkW : k < W.heap.size := by omega
    simp only [sortWorldK, grow, putRowK, putRow, mapBlock, Sort.ahead]
    rw [Array.getElem?_append_left (by simpa using hkW), Array.getElem?_modify, if_neg (by omega)]
theorem CompareE_any (x y : Int) (w : World) : Calls Tryz.prog 218 #[.int .i64 x, .int .i64 y] w fun e w' => e = .returned (.int .i64 (Lib.compareInt x y)) ∧ w' = w := by
  have hN : ∀ (x : Int) (W : World), Calls Tryz.prog 249 #[.int .i64 x] W fun e w' => e = .returned (.bool false) ∧ w' = W := fun x W => by
    go_enter Tryz.func249, Tryz.ntmps249
    go_wp2
    go_ret
    exact ⟨ret_bool (by simp), rfl⟩
  unfold Lib.compareInt
  by_cases h1 : x < y
  · have d1 : decide (x < y) = true := by simpa using h1
    rw [if_pos h1]
    go_enter Tryz.func218, Tryz.ntmps218
    go_wp2_with (go_at_call 249; refine (hN _ _).mono ?_; rintro e w' ⟨rfl, rfl⟩)
    go_ret
    exact ⟨rfl, rfl⟩
  · by_cases h2 : y < x
    · have e1 : y ≤ x := by omega
      have d1 : decide (x < y) = false := by simpa using e1
      have d2 : decide (y < x) = true := by simpa using h2
      rw [if_neg h1, if_pos h2]
      clear h1
      go_enter Tryz.func218, Tryz.ntmps218
      go_wp2_with (go_at_call 249; refine (hN _ _).mono ?_; rintro e w' ⟨rfl, rfl⟩)
      go_ret
      exact ⟨rfl, rfl⟩
    · have e1 : y ≤ x := by omega
      have e2 : x ≤ y := by omega
      have d1 : decide (x < y) = false := by simpa using e1
      have d2 : decide (y < x) = false := by simpa using e2
      rw [if_neg h1, if_neg h2]
      clear h1 h2
      go_enter Tryz.func218, Tryz.ntmps218
      go_wp2_with (go_at_call 249; refine (hN _ _).mono ?_; rintro e w' ⟨rfl, rfl⟩)
      go_ret
      exact ⟨rfl, rfl⟩
theorem Or3_any (g : Nat) (x y z : Int) (w : World) (h : w.heap[g]? = some (.cells #[.int .i64 x, .int .i64 y, .int .i64 z] 3)) :
    Calls Tryz.prog 217 #[.slice (some ⟨g, 0, none⟩) 3 3] w fun e w' => e = .returned (.int .i64 (if x ≠ 0 then x else if y ≠ 0 then y else z)) ∧ w' = w := by
  obtain ⟨⟨c0, _⟩, ⟨c1, _⟩, ⟨c2, _⟩⟩ := cell3 h
  clear h
  by_cases hx : x = 0
  · subst hx
    by_cases hy : y = 0
    · subst hy
      by_cases hz : z = 0
      · subst hz
        go_enter Tryz.func217, Tryz.ntmps217
        go_wp2
        refine wp_loop_rounds 4 ?_
        rw [rounds_succ]
        go_wp2
        rw [rounds_succ]
        go_wp2
        rw [rounds_succ]
        go_wp2
        rw [rounds_succ]
        go_wp2
        go_ret
        exact ⟨rfl, rfl⟩
      · have hz' : (z != 0) = true := by simpa using hz
        rw [if_neg (by simp), if_neg (by simp)]
        clear hz
        go_enter Tryz.func217, Tryz.ntmps217
        go_wp2
        refine wp_loop_rounds 3 ?_
        rw [rounds_succ]
        go_wp2
        rw [rounds_succ]
        go_wp2
        rw [rounds_succ]
        go_wp2
        go_ret
        exact ⟨rfl, rfl⟩
    · have hy' : (y != 0) = true := by simpa using hy
      rw [if_neg (by simp), if_pos hy]
      clear hy
      go_enter Tryz.func217, Tryz.ntmps217
      go_wp2
      refine wp_loop_rounds 2 ?_
      rw [rounds_succ]
      go_wp2
      rw [rounds_succ]
      go_wp2
      go_ret
      exact ⟨rfl, rfl⟩
  · have hx' : (x != 0) = true := by simpa using hx
    rw [if_pos hx]
    clear hx
    go_enter Tryz.func217, Tryz.ntmps217
    go_wp2
    refine wp_loop_rounds 1 ?_
    rw [rounds_succ]
    go_wp2
    go_ret
    exact ⟨rfl, rfl⟩
end Go.Proofs.YtefokfbgpfcbkaaGreat
namespace Go.Proofs.YtefokfbgpfcbkaaGreat
set_option linter.unusedVariables false
set_option linter.unusedSimpArgs false
section
variable {κ : Type} [DecidableEq κ]
structure CntE (P : Program) (mt : TypeId) (enc : κ → Value) (U : World) (bm : Nat) (L : List (κ × Value)) (x : κ) (cn : Nat) (st : Int) (W : World) : Prop where
  mp : MapG enc W bm (putL L x (.int .i64 cn))
  gr : U.grownBy W (some bm)
  size : W.heap.size = U.heap.size
  oth : ∀ g, g ≠ bm → W.heap[g]? = U.heap[g]?
  store : ∀ W2 v, W2.heap[bm]? = W.heap[bm]? → ∃ W3, (Instr.entryStore mt (.map (some bm)) (.int .i64 st) v).run P W2 = .ok () W3 ∧ MapG enc W3 bm (putL L x v) ∧ W2.grownBy W3 (some bm) ∧ W3.heap.size = W2.heap.size ∧ (∀ g, g ≠ bm → W3.heap[g]? = W2.heap[g]?)
def CntPh (P : Program) (mt : TypeId) (enc : κ → Value) (U : World) (bm : Nat) (L : List (κ × Value)) (x : κ) (cn : Nat) : Nat → Value → Value → World → Prop
  | 0, _, _, W => W = U
  | 1, e, _, W => ∃ st, e = .tuple #[.int .i64 cn, .int .i64 st] ∧ CntE P mt enc U bm L x cn st W
  | 2, e, s, W => ∃ st, e = .tuple #[.int .i64 cn, .int .i64 st] ∧ s = .int .i64 st ∧ CntE P mt enc U bm L x cn st W
  | _, _, _, W => MapG enc W bm (putL L x (.int .i64 ((cn : Int) + 1))) ∧ U.grownBy W (some bm)
theorem CntPh.keep {P : Program} {mt : TypeId} {enc : κ → Value} {U : World} {bm : Nat} {L : List (κ × Value)} {x : κ} {cn k : Nat} {e s : Value} {W : World} (h : CntPh P mt enc U bm L x cn k e s W) (hk : k ≤ 2) {g : Nat} (hg : g ≠ bm) : W.heap[g]? = U.heap[g]? := by
  match k, hk with
  | 0, _ => rw [show W = U from h]
  | 1, _ => obtain ⟨st, _, h⟩ := h; exact h.oth g hg
  | 2, _ => obtain ⟨st, _, _, h⟩ := h; exact h.oth g hg
theorem CntPh.look {P : Program} {mt kt et : TypeId} {enc : κ → Value} {U : World} {bm : Nat} {L : List (κ × Value)} {x : κ} {cn k : Nat} {e s : Value} {W : World} (h : CntPh P mt enc U bm L x cn k e s W) (hk : k ≤ 2) (hU : MapG enc U bm L) (hL : (lk L x).getD (.int .i64 0) = .int .i64 cn)
    (K : KeyT P kt enc) (hu : P.underlying mt = some (.map kt et)) (hz : ∀ w, (zeroValue et).run P w = .ok (.int .i64 0) w) : (Instr.lookup mt (.map (some bm)) (enc x) false).run P W = .ok (.int .i64 cn) W := by
  have hp : (lk (putL L x (.int .i64 (cn : Int))) x).getD (.int .i64 0) = .int .i64 (cn : Int) := by rw [lk_put, if_pos rfl]; rfl
  match k, hk with
  | 0, _ =>
    rw [show W = U from h]
    have h1 := hU.look K hu (hz U) x false
    rw [hL] at h1
    exact h1
  | 1, _ =>
    obtain ⟨st, _, h⟩ := h
    have h1 := h.mp.look K hu (hz W) x false
    rw [hp] at h1
    exact h1
  | 2, _ =>
    obtain ⟨st, _, _, h⟩ := h
    have h1 := h.mp.look K hu (hz W) x false
    rw [hp] at h1
    exact h1
theorem CntPh.one {P : Program} {mt kt et : TypeId} {enc : κ → Value} {U : World} {bm : Nat} {L : List (κ × Value)} {x : κ} {cn : Nat} {e s : Value} {W : World} (h : CntPh P mt enc U bm L x cn 0 e s W) (hU : MapG enc U bm L) (hL : (lk L x).getD (.int .i64 0) = .int .i64 cn)
    (K : KeyT P kt enc) (hu : P.underlying mt = some (.map kt et)) (hz : ∀ w, (zeroValue et).run P w = .ok (.int .i64 0) w) : ∃ e' W', (Instr.mapEntry mt (.map (some bm)) (enc x)).run P W = .ok e' W' ∧ CntPh P mt enc U bm L x cn 1 e' s W' := by
  rw [show W = U from h]
  obtain ⟨W1, st, r1, q1, q2, q3, q4, q5⟩ := hU.entry K hu (hz U) x
  rw [hL] at r1 q1
  exact ⟨_, W1, r1, st, rfl, q1, q2, q3, q4, q5⟩
theorem CntPh.two {P : Program} {mt : TypeId} {enc : κ → Value} {U : World} {bm : Nat} {L : List (κ × Value)} {x : κ} {cn : Nat} {e s : Value} {W : World} (h : CntPh P mt enc U bm L x cn 1 e s W) : ∃ st : Int, e = .tuple #[.int .i64 cn, .int .i64 st] ∧ CntPh P mt enc U bm L x cn 2 e (.int .i64 st) W := by
  obtain ⟨st, rfl, h⟩ := h
  exact ⟨st, rfl, st, rfl, rfl, h⟩
theorem CntPh.three {P : Program} {mt : TypeId} {enc : κ → Value} {U : World} {bm : Nat} {L : List (κ × Value)} {x : κ} {cn : Nat} {e s : Value} {W : World} (h : CntPh P mt enc U bm L x cn 2 e s W) : ∃ (st : Int) (W' : World), s = .int .i64 st ∧ (Instr.entryStore mt (.map (some bm)) (.int .i64 st) (.int .i64 ((cn : Int) + 1))).run P W = .ok () W' ∧ CntPh P mt enc U bm L x cn 3 e s W' := by
  obtain ⟨st, rfl, rfl, h⟩ := h
  obtain ⟨W3, r, p1, p2, p3, p4⟩ := h.store W (.int .i64 ((cn : Int) + 1)) rfl
  exact ⟨st, W3, rfl, r, p1, p2.os.trans h.gr.os, p2.tape.trans h.gr.tape, p2.output.trans h.gr.output, Nat.le_trans h.gr.size p2.size, fun g hg hne => (p4 g (fun e => hne (by rw [e]))).trans (h.oth g (fun e => hne (by rw [e])))⟩
end
end Go.Proofs.YtefokfbgpfcbkaaGreat
namespace Go.Proofs.YtefokfbgpfcbkaaGreat
set_option linter.unusedVariables false
set_option linter.unusedSimpArgs false
open Go.RowKit Go.Sort
set_option maxRecDepth 100000 in
set_option maxHeartbeats 2000000 in
theorem compare_any (x y : P28.Note) (W : World) : Calls Tryz.prog 194 #[.agg (noteV x).toArray, .agg (noteV y).toArray] W fun e w' => e = .returned (.int .i64 (P28.cmpN x y)) ∧ ∃ q os', w' = grow (W.drewN q) os' := by
  obtain ⟨a, b, s⟩ := x
  obtain ⟨c, d, t⟩ := y
  simp only [noteV]
  have hr : P28.cmpN (a, b, s) (c, d, t) = (if Lib.compareInt a c ≠ 0 then Lib.compareInt a c else if Lib.compareInt b d ≠ 0 then Lib.compareInt b d else Lib.compareBytes s t) := rfl
  rw [hr]
  clear hr
  have h1 := fun V => Tryz.cmp_Compare_int a c V
  have h2 := fun V => CompareE_any b d V
  have h3 := fun V => Tryz.strings_Compare ⟨s.toArray⟩ ⟨t.toArray⟩ V
  simp only [List.toList_toArray] at h3
  obtain ⟨r1, hr1⟩ : ∃ r, Lib.compareInt a c = r := ⟨_, rfl⟩
  obtain ⟨r2, hr2⟩ : ∃ r, Lib.compareInt b d = r := ⟨_, rfl⟩
  obtain ⟨r3, hr3⟩ : ∃ r, Lib.compareBytes s t = r := ⟨_, rfl⟩
  rw [hr1] at h1 ⊢
  rw [hr2] at h2 ⊢
  rw [hr3] at h3 ⊢
  clear hr1 hr2 hr3
  obtain ⟨R, hR⟩ : ∃ R, (if r1 ≠ 0 then r1 else if r2 ≠ 0 then r2 else r3) = R := ⟨_, rfl⟩
  rw [hR]
  have HR := hide hR
  clear hR
  obtain ⟨H, hH⟩ : ∃ H, W.heap.size = H := ⟨_, rfl⟩
  obtain ⟨W1, hW1, hb1, g0, g1, hs1⟩ := new2 W (.cells #[.int .i64 a, .int .i64 b, .string ⟨s.toArray⟩] 183) (.cells #[.int .i64 c, .int .i64 d, .string ⟨t.toArray⟩] 183) H hH
  have HW1 := hide hW1
  obtain ⟨⟨p0, _⟩, ⟨p1, _⟩, ⟨p2, _⟩⟩ := cell3 g0
  obtain ⟨⟨q0, _⟩, ⟨q1, _⟩, ⟨q2, _⟩⟩ := cell3 g1
  have H1 := hide h1
  have H2 := hide h2
  have H3 := hide h3
  clear hW1 hb1 g0 g1 h1 h2 h3
  go_enter Tryz.func194, Tryz.ntmps194
  go_upto_region 1 with fail
  try rw [hH]
  rw [unhide HW1]
  refine wp_region_tail 15 (by kernel_rfl) (by kernel_rfl) (by kernel_rfl) (by kernel_rfl) (by kernel_rfl) ?_
  simp only [List.take_succ_cons, List.take_zero, List.drop_succ_cons, List.drop_zero]
  repeat (go_big_quiet_step (first | exact Calls.quiet_of_same (unhide H1 _) | exact Calls.quiet_of_same (unhide H2 _) | exact Calls.quiet_of_same (unhide H3 _)))
  refine wpQuiet_nil ?_
  intro _ hw'
  obtain ⟨nq, hw''⟩ := hw'
  subst hw''
  have ho := Or3_any (H + 1 + 1) r1 r2 r3 ((W1.drewN nq).alloc (.cells #[.int .i64 r1, .int .i64 r2, .int .i64 r3] 3)) (by have h := World.alloc_heap_new (W1.drewN nq) (.cells #[.int .i64 r1, .int .i64 r2, .int .i64 r3] 3); rwa [show (W1.drewN nq).heap.size = H + 1 + 1 from hs1] at h)
  rw [unhide HR] at ho
  have HO := hide ho
  clear ho
  go_wp2_with (go_at_call 217; with_reducible refine (unhide HO).mono ?_; rintro e w' ⟨rfl, rfl⟩)
  go_ret
  refine ⟨rfl, nq, #[.cells #[.int .i64 a, .int .i64 b, .string ⟨s.toArray⟩] 183, .cells #[.int .i64 c, .int .i64 d, .string ⟨t.toArray⟩] 183, .cells #[.int .i64 r1, .int .i64 r2, .int .i64 r3] 3], ?_⟩
  have hg : ∀ (os : Array Obj) (n : Nat), (grow W os).drewN n = grow (W.drewN n) os := fun os n => rfl
  rw [← unhide HW1, alloc_eq_grow, alloc_eq_grow, alloc_eq_grow, grow_grow, hg, grow_grow]
  simp
theorem OwnT.get {W : World} {B n c i : Nat} {a : Option Addr} {ns : List P28.Note} {p : P28.Note} (h : OwnT W B (.slice a n c) ns) (hi : ns[i]? = some p) :
    ∃ g, a = some ⟨g, 0, none⟩ ∧ W.cell? ⟨g, i * 3, none⟩ = some (.int .i64 p.1) ∧ W.cell? ⟨g, i * 3 + 1, none⟩ = some (.int .i64 p.2.1) ∧ W.cell? ⟨g, i * 3 + 2, none⟩ = some (.string ⟨p.2.2.toArray⟩) := by
  have hlt : i < ns.length := (List.getElem?_eq_some_iff.1 hi).1
  rcases h.2 with ⟨e0, h0⟩ | ⟨g, cap, cur, e0, hb, hg, hn, hm, hs, hx⟩
  · omega
  · injection e0 with e1 e2 e3
    subst e1
    have hc : ∀ t, t < ns.length * 3 → W.cell? ⟨g, t, none⟩ = some ((noteV ns.toArray[t / 3]!)[t % 3]!) := fun t ht => by
      have e1 : (cur.toList.take (ns.length * 3))[t]? = (nCells ns)[t]? := by rw [hx]
      rw [List.getElem?_take, if_pos ht, Array.getElem?_toList, nCells_get ns t ht] at e1
      simp only [World.cell?, hg]
      simp only [Option.isSome_none, Bool.false_eq_true, if_false]
      exact e1
    have e : ns.toArray[i]! = p := by
      simp only [List.getElem!_toArray]
      rw [List.getElem!_eq_getElem?_getD, hi]
      rfl
    refine ⟨g, rfl, ?_, ?_, ?_⟩
    · rw [hc _ (by omega), show i * 3 / 3 = i by omega, show i * 3 % 3 = 0 by omega, e]; rfl
    · rw [hc _ (by omega), show (i * 3 + 1) / 3 = i by omega, show (i * 3 + 1) % 3 = 1 by omega, e]; rfl
    · rw [hc _ (by omega), show (i * 3 + 2) / 3 = i by omega, show (i * 3 + 2) % 3 = 2 by omega, e]; rfl
structure OnI (W V : World) (H : Nat) (ns : List P28.Note) (i : Nat) (v : Value) : Prop where
  own : OwnT V (H + 1) v (P28.onceN (ns.take i))
  mp : ∃ Lm, MapG encDiag V H Lm ∧ (∀ k, lk Lm k = none ↔ k ∉ ns.take i) ∧ (∀ k u, lk Lm k = some u → ∃ n : Nat, u = .int .i64 n ∧ 0 < n ∧ n ≤ i)
  bel : Below H W V
  size : H + 1 ≤ V.heap.size
theorem OnI.next {W V2 V3 : World} {H i cn : Nat} {ns : List P28.Note} {v2 : Value} {x : P28.Note} {Lm : List (P28.Note × Value)} (hx : ns[i]? = some x) (hmp : MapG encDiag V3 H (putL Lm x (.int .i64 (cn + 1)))) (hcn : cn ≤ i)
    (h1 : ∀ k, lk Lm k = none ↔ k ∉ ns.take i) (h2 : ∀ k u, lk Lm k = some u → ∃ n : Nat, u = .int .i64 n ∧ 0 < n ∧ n ≤ i) (hown : OwnT V2 (H + 1) v2 (P28.onceN (ns.take (i + 1)))) (hb : Below H W V2) (hs : H + 1 ≤ V2.heap.size) (hg : V2.grownBy V3 (some H)) : OnI W V3 H ns (i + 1) v2 := by
  refine ⟨hown.keep (fun g hg2 => hg.block g (hown.lt hg2).2 (fun e => by have := (hown.lt hg2).1; cases e; omega)), ⟨_, hmp, fun k => ?_, fun k u hk => ?_⟩, hb.grown hg (by omega) (fun k e => by cases e; omega), Nat.le_trans hs hg.size⟩
  · rw [lk_put, List.take_add_one, hx]
    by_cases e : k = x
    · subst e; simp
    · rw [if_neg e, h1 k]; simp [e]
  · rw [lk_put] at hk
    by_cases e : k = x
    · rw [if_pos e] at hk; cases hk
      exact ⟨cn + 1, by simp, by omega, by omega⟩
    · rw [if_neg e] at hk
      obtain ⟨n, e1, e2, e3⟩ := h2 k u hk
      exact ⟨n, e1, e2, by omega⟩
set_option maxRecDepth 100000 in
set_option maxHeartbeats 4000000 in
theorem once_any (ns : List P28.Note) (v : Value) (W : World) (B : Nat) (h : OwnT W B v ns) (hl : ns.length ≤ 990000000000) :
    Calls Tryz.prog 192 #[v] W fun e w' => ∃ v', e = .returned v' ∧ OwnT w' W.heap.size v' (P28.onceN ns) ∧ Below W.heap.size W w' := by
  obtain ⟨a, c, rfl⟩ := h.form
  have hblk := fun (g : Nat) (e : (Value.slice a ns.length c).ownBlock = some g) => (h.lt e).2
  obtain ⟨H, hH⟩ : ∃ H, W.heap.size = H := ⟨_, rfl⟩
  rw [hH] at hblk ⊢
  obtain ⟨M, hM⟩ : ∃ M, ns.length = M := ⟨_, rfl⟩
  rw [hM] at hl h hblk ⊢
  obtain ⟨W0, hW0, hb0, g0, hs0⟩ := new1 W (.map #[] 0) H hH
  have hi0 : OnI W W0 H ns 0 (.slice none 0 0) := ⟨by simpa [P28.onceN] using OwnT.nil W0 (H + 1), ⟨[], ⟨#[], 0, g0, ⟨by simp, by simp⟩, rfl⟩, by simp [lk, posOf], by simp [lk, posOf]⟩, hb0, by omega⟩
  have hin : ∀ V, Below H W V → OwnT V B (.slice a M c) ns := fun V hb => h.keep (fun g hg => hb.block g (hblk g hg))
  have HIN := hide hin
  have HI0 := hide hi0
  have HM := hide hM
  have HW0 := hide hW0
  have hmm := @run_makeMap Tryz.prog
  clear hin hi0 hM hW0 h hblk g0 hb0
  go_enter Tryz.func192, Tryz.ntmps192
  go_upto_region 2 with fail
  try rw [hH]
  rw [unhide HW0]
  go_wp2
  go_loopg [4, 10] M (fun g s4 s10 wx => ∃ (i : Nat) (v : Value), i + g = M ∧ s10 = .int .i64 i ∧ s4 = v ∧ Hid (OnI W wx H ns i v))
  case atStart => exact ⟨0, _, by omega, by go_num, rfl, HI0⟩
  case round =>
    obtain ⟨i, v, hig, rfl, rfl, HI⟩ := hrel
    cases gk with
    | zero =>
      have e1 : (M : Int) ≤ (i : Int) := by omega
      have j1 : decide ((i : Int) < (M : Int)) = false := by simp; omega
      have htk : ns.take i = ns := List.take_of_length_le (by rw [unhide HM]; omega)
      have hfin := (unhide HI).own
      rw [htk] at hfin
      have HF := hide hfin
      clear hfin htk
      go_wp2
      go_ret
      exact ⟨_, rfl, (unhide HF).base (by omega), (unhide HI).bel⟩
    | succ g' =>
      have hlt : (i : Int) < (M : Int) := by omega
      have hki : IntKind.i64.wrap ((i : Int) + 1) = (i : Int) + 1 := IntWalk.i64_in _ (by omega)
      obtain ⟨⟨xi, xe, xt⟩, hx⟩ := nth_of (unhide HM) (show i < M by omega)
      obtain ⟨gb, rfl, c0, c1, c2⟩ := ((unhide HIN) wr (unhide HI).bel).get hx
      obtain ⟨hown, ⟨Lm, hmp, hnone, hsome⟩, hbel, hsz⟩ := id (unhide HI)
      obtain ⟨va, vc, rfl⟩ := hown.form
      obtain ⟨K, hK⟩ : ∃ K, wr.heap.size = K := ⟨_, rfl⟩
      obtain ⟨W1, hW1, hb1, g1, hs1⟩ := new1 wr (.cells #[.int .i64 xi, .int .i64 xe, .string ⟨xt.toArray⟩] 183) K hK
      have hbW1 : Below H W W1 := hbel.trans (hb1.mono (by omega))
      have hm1 : MapG encDiag W1 H Lm := hmp.keep (hb1.block H (by omega))
      have ho1 : OwnT W1 (H + 1) (.slice va (P28.onceN (ns.take i)).length vc) (P28.onceN (ns.take i)) := hown.keep (fun g hg => hb1.block g (by have := (hown.lt hg).2; omega))
      have hHK : H + 1 ≤ K := by omega
      have hle1 : (P28.onceN (ns.take i)).length ≤ 990000000000 := Nat.le_trans (P28.once_len _) (by rw [List.length_take]; omega)
      obtain ⟨⟨y0, _⟩, ⟨y1, _⟩, ⟨y2, _⟩⟩ := cell3 g1
      have HOK : ∀ g, (Value.slice va (P28.onceN (ns.take i)).length vc).ownBlock = some g → g < K := fun g hg => by have := (hown.lt hg).2; omega
      have HX := hide hx
      have HNONE := hide hnone
      have HSOME := hide hsome
      have HM1 := hide hm1
      have HO1 := hide ho1
      have HW1 := hide hW1
      have HG1 := hide g1
      have HB1 := hide hbW1
      have hmem := P28.once_snoc (ns.take i) (xi, xe, xt)
      simp only [P28.once_mem] at hmem
      have htk1 : ns.take (i + 1) = ns.take i ++ [(xi, xe, xt)] := by rw [List.take_add_one, unhide HX]; rfl
      rw [← htk1] at hmem
      clear hx hown hmp hnone hsome hbel hsz hm1 ho1 hW1 g1 hbW1 hb1 htk1
      go_upto_region 6 with fail
      try rw [hK]
      rw [unhide HW1]
      by_cases hin : (xi, xe, xt) ∈ ns.take i
      · rw [if_pos hin] at hmem
        have HMEM := hide hmem
        obtain ⟨u, hu⟩ : ∃ u, lk Lm (xi, xe, xt) = some u := by
          cases hq : lk Lm (xi, xe, xt) with
          | none => exact absurd hin ((unhide HNONE _).1 hq)
          | some u => exact ⟨u, rfl⟩
        obtain ⟨cn, rfl, hcn0, hcni⟩ := unhide HSOME _ _ hu
        have HU := hide hu
        have t1 : ((cn : Int) == 0) = false := by simp; omega
        have hkc : IntKind.i64.wrap ((cn : Int) + 1) = (cn : Int) + 1 := IntWalk.i64_in _ (by omega)
        have hlook : ∀ q, (Instr.lookup 261 (.map (some H)) (.agg #[.int .i64 xi, .int .i64 xe, .string ⟨xt.toArray⟩]) false).run Tryz.prog (W1.drewN q) = .ok (.int .i64 cn) (W1.drewN q) := fun q => by
          have h := ((unhide HM1).keep (W' := W1.drewN q) rfl).look key_diag Tryz.underlying261 (zeroI _) (xi, xe, xt) false
          rw [hu] at h
          exact h
        clear hu hmem hin
        go_upto_region 8 with (at_lookup; refine wpList_lookOne rfl _ _ rfl (unhide HM1) key_diag Tryz.underlying261 (zeroI _) rfl (xi, xe, xt) rfl (unhide HU) ?_)
        obtain ⟨U, hU⟩ : ∃ U, W1.drew = U := ⟨_, rfl⟩
        have hbU : Below W1.heap.size W1 U := by rw [← hU]; exact (Below.refl _ _).drew
        have hsU : U.heap.size = W1.heap.size := by rw [← hU]; rfl
        have hmU : MapG encDiag U H Lm := (unhide HM1).keep (by rw [← hU]; rfl)
        have hL : (lk Lm (xi, xe, xt)).getD (.int .i64 0) = .int .i64 cn := by rw [unhide HU]; rfl
        have hS : ∀ k e s W, CntPh Tryz.prog 261 encDiag U H Lm (xi, xe, xt) cn k e s W → k ≤ 2 → (W.cell? ⟨K, 0, none⟩ = some (.int .i64 xi) ∧ W.cell? ⟨K, 1, none⟩ = some (.int .i64 xe) ∧ W.cell? ⟨K, 2, none⟩ = some (.string ⟨xt.toArray⟩)) ∧ (Instr.lookup 261 (.map (some H)) (.agg #[.int .i64 xi, .int .i64 xe, .string ⟨xt.toArray⟩]) false).run Tryz.prog W = .ok (.int .i64 cn) W := fun k e s W h hk => by
          have hb : W.heap[K]? = W1.heap[K]? := (h.keep hk (by omega)).trans (hbU.block K (by omega))
          exact ⟨⟨(World.cell?_of_block (a := ⟨K, 0, none⟩) hb).trans y0, (World.cell?_of_block (a := ⟨K, 1, none⟩) hb).trans y1, (World.cell?_of_block (a := ⟨K, 2, none⟩) hb).trans y2⟩, h.look hk hmU hL key_diag Tryz.underlying261 zeroI⟩
        refine wp_region_phase hmixed [4, 5, 6] (fun k aF W => ∃ e s, aF = { tmps := #[.slice (some ⟨gb, 0, none⟩) M c, undef, .slice none 0 0, .map (some H), .slice va (P28.onceN (ns.take i)).length vc, undef, .pointer (some ⟨K, 0, none⟩), .map (some H), .slice (some ⟨gb, 0, none⟩) M c, .int .i64 M, .int .i64 i, .bool true, .pointer (some ⟨gb, i * 3, none⟩), .agg #[.int .i64 xi, .int .i64 xe, .string ⟨xt.toArray⟩], .map (some H), .agg #[.int .i64 xi, .int .i64 xe, .string ⟨xt.toArray⟩], .int .i64 cn, .bool false, u18, u19, u20, u21, .map (some H), .agg #[.int .i64 xi, .int .i64 xe, .string ⟨xt.toArray⟩], .int .i64 cn, .int .i64 ((cn : Int) + 1), e, s, u28, undef], defers := [] } ∧ CntPh Tryz.prog 261 encDiag U H Lm (xi, xe, xt) cn k e s W) (aF := (fun e s => { tmps := #[.slice (some ⟨gb, 0, none⟩) M c, undef, .slice none 0 0, .map (some H), .slice va (P28.onceN (ns.take i)).length vc, undef, .pointer (some ⟨K, 0, none⟩), .map (some H), .slice (some ⟨gb, 0, none⟩) M c, .int .i64 M, .int .i64 i, .bool true, .pointer (some ⟨gb, i * 3, none⟩), .agg #[.int .i64 xi, .int .i64 xe, .string ⟨xt.toArray⟩], .map (some H), .agg #[.int .i64 xi, .int .i64 xe, .string ⟨xt.toArray⟩], .int .i64 cn, .bool false, u18, u19, u20, u21, .map (some H), .agg #[.int .i64 xi, .int .i64 xe, .string ⟨xt.toArray⟩], .int .i64 cn, .int .i64 ((cn : Int) + 1), e, s, u28, undef], defers := [] }) undef undef) (by kernel_rfl) (by kernel_rfl) (by simp) ⟨undef, undef, rfl, hU⟩ rfl rfl (same_mid 22 6 (by kernel_rfl) rfl rfl) ?pure ?write ?fin
        case pure =>
          rintro k aF W ix o ⟨e, s, rfl, hph⟩ ho hni hanc
          rcases ix with _ | _ | _ | _ | _ | _ | _ | ix
          · have ho' : some _ = some o := ho
            cases ho'
            obtain ⟨⟨c1, c2, c3⟩, c4⟩ := hS k e s W hph (hanc 2 6 rfl (by kernel_rfl))
            refine (if_pos (show Region.wanted _ (yielded _ _) = true from rfl)).mpr ?_
            refine ⟨_, _, rfl, rfl, .inl ?_⟩
            go_simp
          · have ho' : some _ = some o := ho
            cases ho'
            obtain ⟨⟨c1, c2, c3⟩, c4⟩ := hS k e s W hph (hanc 2 6 rfl (by kernel_rfl))
            refine (if_pos (show Region.wanted _ (yielded _ _) = true from rfl)).mpr ?_
            refine ⟨_, _, rfl, rfl, .inl ?_⟩
            go_simp
          · have ho' : some _ = some o := ho
            cases ho'
            obtain ⟨⟨c1, c2, c3⟩, c4⟩ := hS k e s W hph (hanc 2 6 rfl (by kernel_rfl))
            refine (if_pos (show Region.wanted _ (yielded _ _) = true from rfl)).mpr ?_
            refine ⟨_, _, rfl, rfl, .inl ?_⟩
            go_simp
          · have ho' : some _ = some o := ho
            cases ho'
            obtain ⟨⟨c1, c2, c3⟩, c4⟩ := hS k e s W hph (hanc 2 6 rfl (by kernel_rfl))
            refine (if_pos (show Region.wanted _ (yielded _ _) = true from rfl)).mpr ?_
            refine ⟨_, _, rfl, rfl, .inl ?_⟩
            go_simp
            try decide
          · exfalso; simp at hni
          · exfalso; simp at hni
          · exfalso; simp at hni
          · exfalso; simp at ho
        case write =>
          rintro k aF W ix o ⟨e, s, rfl, hph⟩ hi ho
          rcases k with _ | _ | _ | k
          · cases (show some 4 = some ix from hi)
            have ho' : some _ = some o := ho
            cases ho'
            obtain ⟨e', W', r, h1⟩ := hph.one hmU hL key_diag Tryz.underlying261 zeroI
            refine ⟨rfl, .inl ⟨e', W', ?_, ⟨e', s, rfl, h1⟩⟩⟩
            have r' : (Instr.mapEntry 261 (.map (some H)) (.agg #[.int .i64 xi, .int .i64 xe, .string ⟨xt.toArray⟩])).run Tryz.prog W = .ok e' W' := r
            simp [execOp, Act.eval, r', Result.andThen]
          · cases (show some 5 = some ix from hi)
            have ho' : some _ = some o := ho
            cases ho'
            obtain ⟨st, rfl, h2⟩ := hph.two
            refine ⟨rfl, .inl ⟨.int .i64 st, W, ?_, ⟨_, _, rfl, h2⟩⟩⟩
            have r' : (Instr.extract (.tuple #[.int .i64 (cn : Int), .int .i64 st]) 1).run Tryz.prog W = .ok (.int .i64 st) W := rfl
            simp [execOp, Act.eval, r', Result.andThen]
          · cases (show some 6 = some ix from hi)
            have ho' : some _ = some o := ho
            cases ho'
            obtain ⟨st, W', rfl, r, h3⟩ := hph.three
            refine ⟨rfl, .inr (.inl ⟨W', ?_, ⟨_, _, rfl, h3⟩⟩)⟩
            simp [execOp, Act.eval, r, Result.andThen]
          · simp at hi
        case fin =>
          rintro k aF W3 hk ⟨e, s, rfl, hph⟩
          obtain ⟨k, rfl⟩ : ∃ k', k = k' + 3 := ⟨k - 3, by simp at hk; omega⟩
          obtain ⟨hmp3, hg3⟩ := id hph
          have hnext := OnI.next (unhide HX) hmp3 hcni (unhide HNONE) (unhide HSOME) (V2 := U) (v2 := .slice va (P28.onceN (ns.take i)).length vc) (by rw [unhide HMEM]; exact (unhide HO1).keep (fun g hg => hbU.block g ((OwnT.lt (unhide HO1) hg).2))) (by rw [← hU]; exact (unhide HB1).drew) (show H + 1 ≤ U.heap.size by omega) hg3
          have HN := hide hnext
          clear hnext hmp3 hg3 hph hS hL hmU hbU
          go_wp2
          go_roundg g'
          case measure => omega
          case rel => exact ⟨i + 1, _, by omega, by go_num, rfl, HN⟩
      · rw [if_neg hin] at hmem
        have HMEM := hide hmem
        have hu : lk Lm (xi, xe, xt) = none := (unhide HNONE _).2 hin
        have HU := hide hu
        have t1 : ((0 : Int) == 0) = true := by simp
        obtain ⟨cn, hcn⟩ : ∃ cn : Nat, cn = 0 := ⟨_, rfl⟩
        have hcni : cn ≤ i := by omega
        have hcz : (.int .i64 0 : Value) = .int .i64 (cn : Int) := by rw [hcn]; rfl
        have hkc : IntKind.i64.wrap ((cn : Int) + 1) = (cn : Int) + 1 := IntWalk.i64_in _ (by omega)
        have hlk0 := fun (V : World) (hV : MapG encDiag V H Lm) => hV.look key_diag Tryz.underlying261 (zeroI _) (xi, xe, xt) false
        rw [hu] at hlk0
        simp only [Option.getD_none] at hlk0
        rw [hcz] at hlk0
        have HLK0 := hide hlk0
        obtain ⟨W2, hW2, hb2, g2, hs2⟩ := new1 W1 (.cells #[.int .i64 xi, .int .i64 xe, .string ⟨xt.toArray⟩] 183) (K + 1) hs1
        have hm2 := (unhide HM1).keep (hb2.block H (by omega))
        have ho2 := (unhide HO1).keep (W' := W2) (fun g hg => hb2.block g (by have := ((unhide HO1).lt hg).2; omega))
        have hoK : ∀ g, (Value.slice va (P28.onceN (ns.take i)).length vc).ownBlock = some g → H + 1 ≤ g ∧ g < K := fun g hg => ⟨((unhide HO1).lt hg).1, HOK g hg⟩
        have hk2 := (hb2.block K (by omega)).trans (unhide HG1)
        have hbw2 := (unhide HB1).trans (hb2.mono (by omega))
        have HM2 := hide hm2
        have HO2 := hide ho2
        have HOK2 := hide hoK
        have HK2 := hide hk2
        have HBW2 := hide hbw2
        have HW2 := hide hW2
        have HG2 := hide g2
        clear hu hmem hin hm2 ho2 hoK hk2 hbw2 hW2 g2 hb2 hlk0 hcz
        go_upto_region 8 with (first | (at_lookup; refine wpList_lookOne rfl _ _ rfl (unhide HM1) key_diag Tryz.underlying261 (zeroI _) rfl (xi, xe, xt) rfl (unhide HU) ?_) | (rw [unhide HW2]; refine wpList_appNote (p := (xi, xe, xt)) (by rfl) _ _ (by rfl) (by rfl) (unhide HO2) (K + 1) 1 (by rfl) (unhide HG2) _ rfl (by omega) (by omega) ?_; intro g3 cap3 w3 hown3 hgrow3 hat3 hlt3))
        have hK3 := (hgrow3.block K (by omega) (fun e => by have := unhide HOK2 K e.symm; omega)).trans (unhide HK2)
        have hm3 : MapG encDiag w3 H Lm := (unhide HM2).keep (hgrow3.block H (by omega) (fun e => by have := unhide HOK2 H e.symm; omega))
        have hbw3 : Below H W w3 := (unhide HBW2).grown hgrow3 (by omega) (fun k e => by have := unhide HOK2 k e; omega)
        have hsz3 := hgrow3.size
        have hlook : ∀ q, (Instr.lookup 261 (.map (some H)) (.agg #[.int .i64 xi, .int .i64 xe, .string ⟨xt.toArray⟩]) false).run Tryz.prog (w3.drewN q) = .ok (.int .i64 cn) (w3.drewN q) := fun q => unhide HLK0 _ (hm3.keep (W' := w3.drewN q) rfl)
        clear y0 y1 y2 HM1 HB1
        obtain ⟨⟨y0, _⟩, ⟨y1, _⟩, ⟨y2, _⟩⟩ := cell3 hK3
        have HM1 := hide hm3
        have HB1 := hide hbw3
        have HO3 := hide hown3
        clear hK3 hm3 hbw3 hown3 hgrow3 hat3
        obtain ⟨U, hU⟩ : ∃ U, w3.drew = U := ⟨_, rfl⟩
        have hbU : Below w3.heap.size w3 U := by rw [← hU]; exact (Below.refl _ _).drew
        have hsU : U.heap.size = w3.heap.size := by rw [← hU]; rfl
        have hmU : MapG encDiag U H Lm := (unhide HM1).keep (by rw [← hU]; rfl)
        have hL : (lk Lm (xi, xe, xt)).getD (.int .i64 0) = .int .i64 cn := by rw [unhide HU, hcn]; rfl
        have hS : ∀ k e s W, CntPh Tryz.prog 261 encDiag U H Lm (xi, xe, xt) cn k e s W → k ≤ 2 → (W.cell? ⟨K, 0, none⟩ = some (.int .i64 xi) ∧ W.cell? ⟨K, 1, none⟩ = some (.int .i64 xe) ∧ W.cell? ⟨K, 2, none⟩ = some (.string ⟨xt.toArray⟩)) ∧ (Instr.lookup 261 (.map (some H)) (.agg #[.int .i64 xi, .int .i64 xe, .string ⟨xt.toArray⟩]) false).run Tryz.prog W = .ok (.int .i64 cn) W := fun k e s W h hk => by
          have hb : W.heap[K]? = w3.heap[K]? := (h.keep hk (by omega)).trans (hbU.block K (by omega))
          exact ⟨⟨(World.cell?_of_block (a := ⟨K, 0, none⟩) hb).trans y0, (World.cell?_of_block (a := ⟨K, 1, none⟩) hb).trans y1, (World.cell?_of_block (a := ⟨K, 2, none⟩) hb).trans y2⟩, h.look hk hmU hL key_diag Tryz.underlying261 zeroI⟩
        refine wp_region_phase hmixed [4, 5, 6] (fun k aF W => ∃ e s, aF = { tmps := #[.slice (some ⟨gb, 0, none⟩) M c, undef, .slice none 0 0, .map (some H), .slice (some ⟨g3, 0, none⟩) ((P28.onceN (ns.take i)).length + 1) cap3, undef, .pointer (some ⟨K, 0, none⟩), .map (some H), .slice (some ⟨gb, 0, none⟩) M c, .int .i64 M, .int .i64 i, .bool true, .pointer (some ⟨gb, i * 3, none⟩), .agg #[.int .i64 xi, .int .i64 xe, .string ⟨xt.toArray⟩], .map (some H), .agg #[.int .i64 xi, .int .i64 xe, .string ⟨xt.toArray⟩], .int .i64 0, .bool true, .slice va (P28.onceN (ns.take i)).length vc, .agg #[.int .i64 xi, .int .i64 xe, .string ⟨xt.toArray⟩], .slice (some ⟨K + 1, 0, none⟩) 1 1, .slice (some ⟨g3, 0, none⟩) ((P28.onceN (ns.take i)).length + 1) cap3, .map (some H), .agg #[.int .i64 xi, .int .i64 xe, .string ⟨xt.toArray⟩], .int .i64 cn, .int .i64 ((cn : Int) + 1), e, s, u28, undef], defers := [] } ∧ CntPh Tryz.prog 261 encDiag U H Lm (xi, xe, xt) cn k e s W) (aF := (fun e s => { tmps := #[.slice (some ⟨gb, 0, none⟩) M c, undef, .slice none 0 0, .map (some H), .slice (some ⟨g3, 0, none⟩) ((P28.onceN (ns.take i)).length + 1) cap3, undef, .pointer (some ⟨K, 0, none⟩), .map (some H), .slice (some ⟨gb, 0, none⟩) M c, .int .i64 M, .int .i64 i, .bool true, .pointer (some ⟨gb, i * 3, none⟩), .agg #[.int .i64 xi, .int .i64 xe, .string ⟨xt.toArray⟩], .map (some H), .agg #[.int .i64 xi, .int .i64 xe, .string ⟨xt.toArray⟩], .int .i64 0, .bool true, .slice va (P28.onceN (ns.take i)).length vc, .agg #[.int .i64 xi, .int .i64 xe, .string ⟨xt.toArray⟩], .slice (some ⟨K + 1, 0, none⟩) 1 1, .slice (some ⟨g3, 0, none⟩) ((P28.onceN (ns.take i)).length + 1) cap3, .map (some H), .agg #[.int .i64 xi, .int .i64 xe, .string ⟨xt.toArray⟩], .int .i64 cn, .int .i64 ((cn : Int) + 1), e, s, u28, undef], defers := [] }) undef undef) (by kernel_rfl) (by kernel_rfl) (by simp) ⟨undef, undef, rfl, hU⟩ rfl rfl (same_mid 22 6 (by kernel_rfl) rfl rfl) ?pure ?write ?fin
        case pure =>
          rintro k aF W ix o ⟨e, s, rfl, hph⟩ ho hni hanc
          rcases ix with _ | _ | _ | _ | _ | _ | _ | ix
          · have ho' : some _ = some o := ho
            cases ho'
            obtain ⟨⟨c1, c2, c3⟩, c4⟩ := hS k e s W hph (hanc 2 6 rfl (by kernel_rfl))
            refine (if_pos (show Region.wanted _ (yielded _ _) = true from rfl)).mpr ?_
            refine ⟨_, _, rfl, rfl, .inl ?_⟩
            go_simp
          · have ho' : some _ = some o := ho
            cases ho'
            obtain ⟨⟨c1, c2, c3⟩, c4⟩ := hS k e s W hph (hanc 2 6 rfl (by kernel_rfl))
            refine (if_pos (show Region.wanted _ (yielded _ _) = true from rfl)).mpr ?_
            refine ⟨_, _, rfl, rfl, .inl ?_⟩
            go_simp
          · have ho' : some _ = some o := ho
            cases ho'
            obtain ⟨⟨c1, c2, c3⟩, c4⟩ := hS k e s W hph (hanc 2 6 rfl (by kernel_rfl))
            refine (if_pos (show Region.wanted _ (yielded _ _) = true from rfl)).mpr ?_
            refine ⟨_, _, rfl, rfl, .inl ?_⟩
            go_simp
          · have ho' : some _ = some o := ho
            cases ho'
            obtain ⟨⟨c1, c2, c3⟩, c4⟩ := hS k e s W hph (hanc 2 6 rfl (by kernel_rfl))
            refine (if_pos (show Region.wanted _ (yielded _ _) = true from rfl)).mpr ?_
            refine ⟨_, _, rfl, rfl, .inl ?_⟩
            go_simp
            try decide
          · exfalso; simp at hni
          · exfalso; simp at hni
          · exfalso; simp at hni
          · exfalso; simp at ho
        case write =>
          rintro k aF W ix o ⟨e, s, rfl, hph⟩ hi ho
          rcases k with _ | _ | _ | k
          · cases (show some 4 = some ix from hi)
            have ho' : some _ = some o := ho
            cases ho'
            obtain ⟨e', W', r, h1⟩ := hph.one hmU hL key_diag Tryz.underlying261 zeroI
            refine ⟨rfl, .inl ⟨e', W', ?_, ⟨e', s, rfl, h1⟩⟩⟩
            have r' : (Instr.mapEntry 261 (.map (some H)) (.agg #[.int .i64 xi, .int .i64 xe, .string ⟨xt.toArray⟩])).run Tryz.prog W = .ok e' W' := r
            simp [execOp, Act.eval, r', Result.andThen]
          · cases (show some 5 = some ix from hi)
            have ho' : some _ = some o := ho
            cases ho'
            obtain ⟨st, rfl, h2⟩ := hph.two
            refine ⟨rfl, .inl ⟨.int .i64 st, W, ?_, ⟨_, _, rfl, h2⟩⟩⟩
            have r' : (Instr.extract (.tuple #[.int .i64 (cn : Int), .int .i64 st]) 1).run Tryz.prog W = .ok (.int .i64 st) W := rfl
            simp [execOp, Act.eval, r', Result.andThen]
          · cases (show some 6 = some ix from hi)
            have ho' : some _ = some o := ho
            cases ho'
            obtain ⟨st, W', rfl, r, h3⟩ := hph.three
            refine ⟨rfl, .inr (.inl ⟨W', ?_, ⟨_, _, rfl, h3⟩⟩)⟩
            simp [execOp, Act.eval, r, Result.andThen]
          · simp at hi
        case fin =>
          rintro k aF W3 hk ⟨e, s, rfl, hph⟩
          obtain ⟨k, rfl⟩ : ∃ k', k = k' + 3 := ⟨k - 3, by simp at hk; omega⟩
          obtain ⟨hmp3, hg3⟩ := id hph
          have hnext := OnI.next (unhide HX) hmp3 hcni (unhide HNONE) (unhide HSOME) (V2 := U) (v2 := .slice (some ⟨g3, 0, none⟩) ((P28.onceN (ns.take i)).length + 1) cap3) (by rw [unhide HMEM]; exact (unhide HO3).keep (fun g hg => hbU.block g ((OwnT.lt (unhide HO3) hg).2))) (by rw [← hU]; exact (unhide HB1).drew) (show H + 1 ≤ U.heap.size by omega) hg3
          have HN := hide hnext
          clear hnext hmp3 hg3 hph hS hL hmU hbU
          go_wp2
          go_roundg g'
          case measure => omega
          case rel => exact ⟨i + 1, _, by omega, by go_num, rfl, HN⟩
theorem sortF_any (l : List P28.Note) (v : Value) (W : World) (B : Nat) (h : OwnT W B v l) (hB : B ≤ W.heap.size) (hl : l.length ≤ 990000000000) :
    Calls Tryz.prog 193 #[v, .func (.func 194) #[] #[]] W fun e w' => e = .returned (.tuple #[]) ∧ OwnT w' B v (l.mergeSort fun x y => !(Go.Proofs.ltOf P28.cmpN) y x) ∧ Below B W w' := by
  obtain ⟨a, c, rfl⟩ := h.form
  by_cases hz : l = []
  · subst hz
    have hn := AnyF.slices_SortFunc_none Tryz.sortDiag a c (.func (.func 194) #[] #[]) W
    refine Calls.mono (f := 193) hn ?_
    rintro e w' ⟨rfl, rfl⟩
    refine ⟨rfl, ?_, Below.refl _ _⟩
    rw [List.mergeSort_nil]
    exact h
  · obtain ⟨x, r, hxr⟩ : ∃ x r, l = x :: r := by cases l with | nil => exact absurd rfl hz | cons x r => exact ⟨x, r, rfl⟩
    obtain ⟨g, rfl, _⟩ := h.get (i := 0) (p := x) (by rw [hxr]; rfl)
    have hg := h.lt (g := g) rfl
    have eg : ∀ args w, (callFunc 194 args).run Tryz.prog w = .ok (.enter 194 args) w := enters_of Tryz.func194 (by kernel_rfl) rfl
    have hcmp : CmpLays Tryz.prog 194 #[] noteV 3 P28.cmpN g 0 l.toArray.size W := fun m os dk _ x y => compare_any x y _
    have hs := AnyQ.slices_SortFunc_total Tryz.sortDiag 3 Tryz.isAgg183 Tryz.sizeOf183 noteV (fun _ => rfl) (fun x v hv => by simp [noteV] at hv; rcases hv with rfl | rfl | rfl <;> rfl) P28.cmpN P28.cmpN_swo 194 #[] g 0 c l.toArray W eg hcmp (holdsK_of_own h) hg.2 (by simp; omega) (fun x y h1 h2 => P28.ltN_total x y (by rw [← P28.ltN_cmp]; exact h1) (by rw [← P28.ltN_cmp]; exact h2))
    rw [show l.toArray.size = l.length by simp] at hs
    refine Calls.mono (f := 193) hs ?_
    rintro e w' ⟨rfl, n, os, rfl⟩
    simp only [List.toList_toArray]
    exact ⟨trivial, own_sorted h (by simp), below_sorted (Below.refl _ _) hg.1 hB⟩
theorem Sort_any (ns : List P28.Note) (v : Value) (W : World) (B : Nat) (h : OwnT W B v ns) (hl : ns.length ≤ 990000000000) :
    Calls Tryz.prog 162 #[v] W fun e w' => ∃ v', e = .returned v' ∧ OwnT w' W.heap.size v' (P28.sortN ns) ∧ Below W.heap.size W w' := by
  have ho := once_any ns v W B h hl
  obtain ⟨va, vc, rfl⟩ := h.form
  have hle := Nat.le_trans (P28.once_len ns) hl
  have hs := fun (v : Value) (V : World) (h : OwnT V W.heap.size v (P28.onceN ns)) (hV : W.heap.size ≤ V.heap.size) => sortF_any (P28.onceN ns) v V W.heap.size h hV hle
  have hso : (P28.onceN ns).mergeSort (fun x y => !(Go.Proofs.ltOf P28.cmpN) y x) = P28.sortN ns := rfl
  rw [hso] at hs
  have HO := hide ho
  have HS := hide hs
  clear ho hs hso h
  go_enter Tryz.func162, Tryz.ntmps162
  go_wp2_with (first | (go_at_call 192; refine (unhide HO).mono ?_; rintro e w2 ⟨v2, rfl, hown2, hb2⟩; obtain ⟨va2, vc2, rfl⟩ := hown2.form) | (go_at_call 193; refine (unhide HS _ _ hown2 hb2.size).mono ?_; rintro e w3 ⟨rfl, hown3, hb3⟩))
  go_ret
  exact ⟨_, rfl, hown3, hb2.trans hb3⟩
end Go.Proofs.YtefokfbgpfcbkaaGreat
namespace Go.Proofs.YtefokfbgpfcbkaaGreat
set_option linter.unusedVariables false
set_option linter.unusedSimpArgs false
open Go.RowKit
theorem set13n {W : World} {g : Nat} {T : TypeId} {u0 u1 u2 u3 u4 u5 u6 u7 u8 u9 u10 u11 u12 : Value} (h : W.heap[g]? = some (.cells #[u0, u1, u2, u3, u4, u5, u6, u7, u8, u9, u10, u11, u12] T)) (v0 v1 v2 v3 v4 v5 v6 v7 v8 v9 v10 v11 v12 : Value) : (((((((((((((W.setCell ⟨g, 0, none⟩ v0).setCell ⟨g, 1, none⟩ v1).setCell ⟨g, 2, none⟩ v2).setCell ⟨g, 3, none⟩ v3).setCell ⟨g, 4, none⟩ v4).setCell ⟨g, 5, none⟩ v5).setCell ⟨g, 6, none⟩ v6).setCell ⟨g, 7, none⟩ v7).setCell ⟨g, 8, none⟩ v8).setCell ⟨g, 9, none⟩ v9).setCell ⟨g, 10, none⟩ v10).setCell ⟨g, 11, none⟩ v11).setCell ⟨g, 12, none⟩ v12).heap[g]? = some (.cells #[v0, v1, v2, v3, v4, v5, v6, v7, v8, v9, v10, v11, v12] T) := by
  simp [World.setCell, Array.getElem?_modify, h]
theorem other13n {W : World} {g g' : Nat} (h : g' ≠ g) (v0 v1 v2 v3 v4 v5 v6 v7 v8 v9 v10 v11 v12 : Value) : (((((((((((((W.setCell ⟨g, 0, none⟩ v0).setCell ⟨g, 1, none⟩ v1).setCell ⟨g, 2, none⟩ v2).setCell ⟨g, 3, none⟩ v3).setCell ⟨g, 4, none⟩ v4).setCell ⟨g, 5, none⟩ v5).setCell ⟨g, 6, none⟩ v6).setCell ⟨g, 7, none⟩ v7).setCell ⟨g, 8, none⟩ v8).setCell ⟨g, 9, none⟩ v9).setCell ⟨g, 10, none⟩ v10).setCell ⟨g, 11, none⟩ v11).setCell ⟨g, 12, none⟩ v12).heap[g']? = W.heap[g']? := by
  rw [Below.heap_setCell _ _ _ _ h, Below.heap_setCell _ _ _ _ h, Below.heap_setCell _ _ _ _ h, Below.heap_setCell _ _ _ _ h, Below.heap_setCell _ _ _ _ h, Below.heap_setCell _ _ _ _ h, Below.heap_setCell _ _ _ _ h, Below.heap_setCell _ _ _ _ h, Below.heap_setCell _ _ _ _ h, Below.heap_setCell _ _ _ _ h, Below.heap_setCell _ _ _ _ h, Below.heap_setCell _ _ _ _ h, Below.heap_setCell _ _ _ _ h]
theorem step_loadn {W : World} {g : Nat} {u0 u1 u2 u3 u4 u5 u6 u7 u8 u9 u10 u11 u12 : Value} (h : W.heap[g]? = some (.cells #[u0, u1, u2, u3, u4, u5, u6, u7, u8, u9, u10, u11, u12] 63)) : (loadVar 63 ⟨g, 0, none⟩).run Tryz.prog W = .ok (.agg #[u0, u1, u2, u3, u4, u5, u6, u7, u8, u9, u10, u11, u12]) W := run_loadVar_row _ _ _ _ _ _ _ h Tryz.underlying63 rfl (by kernel_rfl)
theorem PSt.val_eqn (n a u : List UInt8) (aa : Option Addr) (ac : Nat) (af : List (List UInt8)) (m fi fa li : Int) (k : Nat) (t : List UInt8) (ka : Option Addr) (kc : Nat) (ks : List (List UInt8)) (da : Option Addr) (dc : Nat) (ds : List Nd) (l : Int) :
    (⟨n, a, u, aa, ac, af, m, fi, fa, li, .mk k t ka kc ks da dc ds l⟩ : PSt).val = .agg #[.string ⟨n.toArray⟩, .string ⟨a.toArray⟩, .string ⟨u.toArray⟩, .slice aa af.length ac, .int .i64 m, .int .i64 fi, .int .i64 fa, .int .i64 li, .int .u8 k, .string ⟨t.toArray⟩, .slice ka ks.length kc, .slice da ds.length dc, .int .i64 l] := rfl
set_option maxRecDepth 100000 in
theorem meant_any (g o : Nat) (x n : Int) (cs : Array Value) (T : TypeId) (W : World) (h : W.heap[g]? = some (.cells cs T)) (hx : cs[o]? = some (.int .i64 x)) :
    Calls Tryz.prog 195 #[.pointer (some ⟨g, o, none⟩), .int .i64 n] W fun e w' => e = .returned (.tuple #[]) ∧ w'.heap[g]? = some (.cells (cs.setIfInBounds o (.int .i64 (P28.meant x n))) T) ∧ W.grownBy w' (some g) ∧ w'.heap.size = W.heap.size := by
  have c0 : W.cell? ⟨g, o, none⟩ = some (.int .i64 x) := by simp [World.cell?, h, hx]
  have f0 : W.frozen? ⟨g, o, none⟩ = false := by simp [World.frozen?, h]
  by_cases hz : x = 0
  · subst hz
    have HH := hide h
    clear h hx
    go_enter Tryz.func195, Tryz.ntmps195
    go_wp2
    go_end0
    refine ⟨rfl, ?_, setCell_grown _ _ _ _, by simp⟩
    have hh := unhide HH
    simp [World.setCell, Array.getElem?_modify, hh, P28.meant]
  · have hz' : (x == 0) = false := by simpa using hz
    have hm : P28.meant x n = x := by unfold P28.meant; rw [if_neg hz]
    have hs : cs.setIfInBounds o (.int .i64 (P28.meant x n)) = cs := by
      rw [hm]
      apply Array.ext_getElem?
      intro j
      rw [Array.getElem?_setIfInBounds]
      split
      · rename_i e
        subst e
        split
        · exact hx.symm
        · rename_i h2
          rw [Array.getElem?_eq_none (by omega)] at hx
          cases hx
      · rfl
    rw [hs]
    have HH := hide h
    clear h hx hz hm hs
    go_enter Tryz.func195, Tryz.ntmps195
    go_wp2
    go_end0
    exact ⟨rfl, unhide HH, ⟨rfl, rfl, rfl, Nat.le_refl _, fun _ _ _ => rfl⟩, rfl⟩
theorem within_any (x a b : Int) (W : World) : Calls Tryz.prog 165 #[.int .i64 x, .int .i64 a, .int .i64 b] W fun e w' => e = .returned (.bool (!P28.out1 x a b)) ∧ w' = W := by
  unfold P28.out1
  by_cases h1 : a ≤ x
  · by_cases h2 : x ≤ b
    · have d1 : decide (x ≥ a) = true := by simpa using h1
      have d2 : decide (x ≤ b) = true := by simpa using h2
      go_enter Tryz.func165, Tryz.ntmps165
      go_wp2
      go_ret
      exact ⟨ret_bool (by simp [h1, h2]), rfl⟩
    · have h2' : b < x := by omega
      have d1 : decide (x ≥ a) = true := by simpa using h1
      have d2 : decide (x ≤ b) = false := by simpa using h2'
      clear h2
      go_enter Tryz.func165, Tryz.ntmps165
      go_wp2
      go_ret
      exact ⟨ret_bool (by simp; omega), rfl⟩
  · have h1' : x < a := by omega
    have d1 : decide (x ≥ a) = false := by simpa using h1'
    clear h1
    go_enter Tryz.func165, Tryz.ntmps165
    go_wp2
    go_ret
    exact ⟨ret_bool (by simp; omega), rfl⟩
def PSt.real (s : PSt) : PSt := { s with most := P28.meant s.most 1, factor := P28.meant s.factor 1, limit := P28.meant s.limit 100 }
set_option maxRecDepth 100000 in
set_option maxHeartbeats 4000000 in
theorem Real_any (s : PSt) (w : World) : Calls Tryz.prog 166 #[s.val] w fun e w' => e = .returned s.real.val ∧ Below w.heap.size w w' := by
  obtain ⟨n, a, u, aa, ac, af, m, fi, fa, li, ⟨k, t, ka, kc, ks, da, dc, ds, l⟩⟩ := s
  unfold PSt.real
  rw [PSt.val_eqn, PSt.val_eqn]
  obtain ⟨N1, hN1⟩ : ∃ N1, af.length = N1 := ⟨_, rfl⟩
  obtain ⟨N2, hN2⟩ : ∃ N2, ks.length = N2 := ⟨_, rfl⟩
  obtain ⟨N3, hN3⟩ : ∃ N3, ds.length = N3 := ⟨_, rfl⟩
  rw [hN1, hN2, hN3]
  clear hN1 hN2 hN3
  simp only
  obtain ⟨H, hH⟩ : ∃ H, w.heap.size = H := ⟨_, rfl⟩
  obtain ⟨W1, hW1, hb1, g0, hs1⟩ := new1 w (.cells #[.string ⟨n.toArray⟩, .string ⟨a.toArray⟩, .string ⟨u.toArray⟩, .slice aa N1 ac, .int .i64 m, .int .i64 fi, .int .i64 fa, .int .i64 li, .int .u8 k, .string ⟨t.toArray⟩, .slice ka N2 kc, .slice da N3 dc, .int .i64 l] 63) H hH
  obtain ⟨W2, hW2, hb2, g1, hs2⟩ := new1 W1 (.cells #[.string ⟨#[]⟩, .string ⟨#[]⟩, .string ⟨#[]⟩, .slice none 0 0, .int .i64 0, .int .i64 0, .int .i64 0, .int .i64 0, .int .u8 0, .string ⟨#[]⟩, .slice none 0 0, .slice none 0 0, .int .i64 0] 63) (H + 1) hs1
  have g0 := (hb2.block H (by omega)).trans g0
  have hb2 := hb1.trans (hb2.mono (by omega))
  have h1 := fun V hV => meant_any H 4 m 1 #[.string ⟨n.toArray⟩, .string ⟨a.toArray⟩, .string ⟨u.toArray⟩, .slice aa N1 ac, .int .i64 m, .int .i64 fi, .int .i64 fa, .int .i64 li, .int .u8 k, .string ⟨t.toArray⟩, .slice ka N2 kc, .slice da N3 dc, .int .i64 l] 63 V hV rfl
  have h2 := fun V hV => meant_any H 6 fa 1 #[.string ⟨n.toArray⟩, .string ⟨a.toArray⟩, .string ⟨u.toArray⟩, .slice aa N1 ac, .int .i64 (P28.meant m 1), .int .i64 fi, .int .i64 fa, .int .i64 li, .int .u8 k, .string ⟨t.toArray⟩, .slice ka N2 kc, .slice da N3 dc, .int .i64 l] 63 V hV rfl
  have h3 := fun V hV => meant_any H 7 li 100 #[.string ⟨n.toArray⟩, .string ⟨a.toArray⟩, .string ⟨u.toArray⟩, .slice aa N1 ac, .int .i64 (P28.meant m 1), .int .i64 fi, .int .i64 (P28.meant fa 1), .int .i64 li, .int .u8 k, .string ⟨t.toArray⟩, .slice ka N2 kc, .slice da N3 dc, .int .i64 l] 63 V hV rfl
  obtain ⟨m', hm'⟩ : ∃ m', P28.meant m 1 = m' := ⟨_, rfl⟩
  obtain ⟨fa', hfa'⟩ : ∃ m', P28.meant fa 1 = m' := ⟨_, rfl⟩
  obtain ⟨li', hli'⟩ : ∃ m', P28.meant li 100 = m' := ⟨_, rfl⟩
  rw [hm'] at h1 h2 h3 ⊢
  rw [hfa'] at h2 h3 ⊢
  rw [hli'] at h3 ⊢
  have HW1 := hide hW1
  have HW2 := hide hW2
  have G0 := hide g0
  have G1 := hide g1
  have HB2 := hide hb2
  have H1 := hide h1
  have H2 := hide h2
  have H3 := hide h3
  clear hW1 hW2 g0 g1 hb1 hb2 h1 h2 h3 hm' hfa' hli'
  go_enter Tryz.func166, Tryz.ntmps166
  go_upto_region 1 with fail
  try rw [hH]
  rw [unhide HW1]
  try rw [hs1]
  rw [unhide HW2]
  go_upto_region 2 with (go_at_call 195; refine (unhide H1 _ (unhide G0)).mono ?_; rintro e w1 ⟨rfl, q1, r1, z1⟩)
  have Q1 := hide q1
  have R1 := hide r1
  clear q1 r1
  go_upto_region 3 with (go_at_call 195; refine (unhide H2 _ (unhide Q1)).mono ?_; rintro e w2 ⟨rfl, q2, r2, z2⟩)
  have Q2 := hide q2
  have R2 := hide r2
  clear q2 r2
  go_upto_region 4 with (go_at_call 195; refine (unhide H3 _ (unhide Q2)).mono ?_; rintro e w3 ⟨rfl, q3, r3, z3⟩)
  have r2 := unhide R2
  have r1 := unhide R1
  have hq : w3.heap[H]? = some (.cells #[.string ⟨n.toArray⟩, .string ⟨a.toArray⟩, .string ⟨u.toArray⟩, .slice aa N1 ac, .int .i64 m', .int .i64 fi, .int .i64 fa', .int .i64 li', .int .u8 k, .string ⟨t.toArray⟩, .slice ka N2 kc, .slice da N3 dc, .int .i64 l] 63) := q3
  have hg1 := (r3.block (H + 1) (by omega) (by simp)).trans ((r2.block (H + 1) (by omega) (by simp)).trans ((r1.block (H + 1) (by omega) (by simp)).trans (unhide G1)))
  have hb3 : Below H w w3 := (((unhide HB2).grown r1 (by omega) (fun k e => by cases e; omega)).grown r2 (by omega) (fun k e => by cases e; omega)).grown r3 (by omega) (fun k e => by cases e; omega)
  obtain ⟨⟨c0, _⟩, ⟨c1, _⟩, ⟨c2, _⟩, ⟨c3, _⟩, ⟨c4, _⟩, ⟨c5, _⟩, ⟨c6, _⟩, ⟨c7, _⟩, ⟨c8, _⟩, ⟨c9, _⟩, ⟨c10, _⟩, ⟨c11, _⟩, ⟨c12, _⟩⟩ := cell13 hq
  obtain ⟨⟨_, f0⟩, ⟨_, f1⟩, ⟨_, f2⟩, ⟨_, f3⟩, ⟨_, f4⟩, ⟨_, f5⟩, ⟨_, f6⟩, ⟨_, f7⟩, ⟨_, f8⟩, ⟨_, f9⟩, ⟨_, f10⟩, ⟨_, f11⟩, ⟨_, f12⟩⟩ := cell13 hg1
  have HG1 := hide hg1
  have HB3 := hide hb3
  clear q3 r3 r2 r1 hq hg1 hb3 H1 H2 H3 Q1 Q2 R1 R2 G0 G1 HB2 HW1 HW2
  go_wp2
  (try simp only [Exit.inBlock, Exit.then])
  refine bodyPost_ret (results_c1 rfl _ _ _ (H + 1) _ rfl (step_loadn (set13n (unhide HG1) _ _ _ _ _ _ _ _ _ _ _ _ _))) rfl ?_
  refine ⟨rfl, ?_⟩
  rw [hH]
  have hHH : H ≤ H + 1 := by omega
  exact (((((((((((((unhide HB3).setCell (p := ⟨H + 1, 0, none⟩) hHH _).setCell (p := ⟨H + 1, 1, none⟩) hHH _).setCell (p := ⟨H + 1, 2, none⟩) hHH _).setCell (p := ⟨H + 1, 3, none⟩) hHH _).setCell (p := ⟨H + 1, 4, none⟩) hHH _).setCell (p := ⟨H + 1, 5, none⟩) hHH _).setCell (p := ⟨H + 1, 6, none⟩) hHH _).setCell (p := ⟨H + 1, 7, none⟩) hHH _).setCell (p := ⟨H + 1, 8, none⟩) hHH _).setCell (p := ⟨H + 1, 9, none⟩) hHH _).setCell (p := ⟨H + 1, 10, none⟩) hHH _).setCell (p := ⟨H + 1, 11, none⟩) hHH _).setCell (p := ⟨H + 1, 12, none⟩) hHH _
end Go.Proofs.YtefokfbgpfcbkaaGreat
namespace Go.Proofs.YtefokfbgpfcbkaaGreat
set_option linter.unusedVariables false
set_option linter.unusedSimpArgs false
open Go.RowKit
set_option maxRecDepth 100000 in
set_option maxHeartbeats 4000000 in
theorem note21_any (d : Nd) (w : World) (hin : d.In w) :
    Calls Tryz.prog 170 #[d.val] w fun e w' => e = .returned (.bool (!P28.noneB d.bare)) ∧ Below w.heap.size w w' := by
  obtain ⟨H, hH⟩ : ∃ H, w.heap.size = H := ⟨_, rfl⟩
  rw [hH]
  obtain ⟨k, t, ka, kc, ks, da, dc, ds, ln⟩ := d
  obtain ⟨W1, hW1, hb1, g0, hs1⟩ := new1 w (.cells #[.int .u8 k, .string ⟨t.toArray⟩, .slice ka ks.length kc, .slice da ds.length dc, .int .i64 ln] 61) H hH
  have hs := Same20_any _ Nd.zero W1 (hin.below (by rw [hH]; exact hb1)) (Nd.zero_in W1)
  have hz : Nd.zero.val = .agg #[.int .u8 0, .string ⟨#[]⟩, .slice none 0 0, .slice none 0 0, .int .i64 0] := rfl
  have hb : (Nd.mk k t ka kc ks da dc ds ln).bare.same Nd.zero.bare = P28.noneB (Nd.mk k t ka kc ks da dc ds ln).bare := rfl
  rw [hz, hb, Nd.val_eq] at hs
  rw [Nd.val_eq]
  obtain ⟨NB, hNB⟩ : ∃ b, P28.noneB (Nd.mk k t ka kc ks da dc ds ln).bare = b := ⟨_, rfl⟩
  rw [hNB] at hs ⊢
  obtain ⟨⟨c0, _⟩, ⟨c1, _⟩, ⟨c2, _⟩, ⟨c3, _⟩, ⟨c4, _⟩⟩ := five_cell g0
  have HS := hide hs
  have HW1 := hide hW1
  have HB1 := hide hb1
  clear hs hW1 hb1 hz hb hNB g0 hin
  go_enter Tryz.func170, Tryz.ntmps170
  go_upto_region 1 with fail
  try rw [hH]
  rw [unhide HW1]
  go_wp2_with (go_at_call 200; refine (unhide HS).mono ?_; rintro e w2 ⟨rfl, hb2⟩)
  go_ret
  exact ⟨rfl, (unhide HB1).trans (hb2.mono (by omega))⟩
structure PSt.short (s : PSt) : Prop where
  name : s.name.length ≤ 1000000
  action : s.action.length ≤ 1000000
  undo : s.undo.length ≤ 1000000
  after : ∀ x ∈ s.after, x.length ≤ 1000000
  alen : s.after.length ≤ 1000000
  note : okT s.note.bare
set_option maxRecDepth 100000 in
set_option maxHeartbeats 8000000 in
theorem step21_any (s : PSt) (w : World) (hin : s.In w) (hs : s.short) :
    Calls Tryz.prog 129 #[s.val] w fun e w' => e = .returned (.int .i64 (P28.stepE s.bare)) ∧ Below w.heap.size w w' := by
  obtain ⟨H, hH⟩ : ∃ H, w.heap.size = H := ⟨_, rfl⟩
  rw [hH]
  have hdlt := fun r (hr : s.blk r) => hin.lt hr
  rw [hH] at hdlt
  have hinV : ∀ V, Below H w V → s.In V := fun V hV => hin.keep (fun r hr => hV.block r (hdlt r hr))
  have hnote := fun V (hV : Below H w V) => note21_any s.note V (hinV V hV).note
  have hchk := fun V (hV : Below H w V) => Check20_any s.note V (hinV V hV).note hs.note
  have hdep := fun V (hV : Below H w V) => Depth_any s.note V (hinV V hV).note
  simp only [mxL_size] at hdep
  have haft := fun V (hV : Below H w V) => texts_any s.aa s.ac s.after V (hinV V hV).keys (by have := hs.alen; unfold maxLen; omega) (fun x hx => by have := hs.after x hx; omega)
  have hspec : P28.stepE s.bare = if P28.texts [s.name, s.action, s.undo] ≠ 0 then P28.texts [s.name, s.action, s.undo] else if 64 < s.after.length then 2 else if P28.texts s.after ≠ 0 then P28.texts s.after else
    if (P28.fits s.most && (P28.fits s.first && (P28.fits s.factor && P28.fits s.limit))) = false then 1 else if P28.noneB s.note.bare then 0 else if s.note.bare.check 1 ≠ 0 then s.note.bare.check 1 else if 13 < (s.note.bare.size 18).1 then 11 else 0 := rfl
  rw [hspec]
  obtain ⟨TT, hTT⟩ : ∃ T, P28.texts [s.name, s.action, s.undo] = T := ⟨_, rfl⟩
  obtain ⟨TA, hTA⟩ : ∃ T, P28.texts s.after = T := ⟨_, rfl⟩
  obtain ⟨FB, hFB⟩ : ∃ T, (P28.fits s.most && (P28.fits s.first && (P28.fits s.factor && P28.fits s.limit))) = T := ⟨_, rfl⟩
  obtain ⟨NB, hNB⟩ : ∃ T, P28.noneB s.note.bare = T := ⟨_, rfl⟩
  obtain ⟨CE, hCE⟩ : ∃ T, s.note.bare.check 1 = T := ⟨_, rfl⟩
  obtain ⟨DP, hDP⟩ : ∃ T, (s.note.bare.size 18).1 = T := ⟨_, rfl⟩
  rw [hTA] at haft
  rw [hNB] at hnote
  rw [hCE] at hchk
  rw [hDP] at hdep
  rw [hTT, hTA, hFB, hNB, hCE, hDP]
  obtain ⟨RES, hRES⟩ : ∃ R : Int, (if TT ≠ 0 then TT else if 64 < s.after.length then 2 else if TA ≠ 0 then TA else if FB = false then 1 else if NB then 0 else if CE ≠ 0 then CE else if 13 < DP then 11 else 0) = R := ⟨_, rfl⟩
  rw [hRES]
  obtain ⟨n1, a1, u1, aa1, ac1, af1, q1, fi1, fa1, li1, ⟨k1, t1, ka1, kc1, ks1, da1, dc1, ds1, l1⟩⟩ := s
  have hn1 := hs.name
  have ha1 := hs.action
  have hu1 := hs.undo
  simp only at hn1 ha1 hu1 hTT hFB
  simp only [Nd.val_eq] at hnote hchk hdep
  simp only at haft
  rw [PSt.val_eqn]
  obtain ⟨N1, hN1⟩ : ∃ N1, af1.length = N1 := ⟨_, rfl⟩
  obtain ⟨N2, hN2⟩ : ∃ N2, ks1.length = N2 := ⟨_, rfl⟩
  obtain ⟨N3, hN3⟩ : ∃ N3, ds1.length = N3 := ⟨_, rfl⟩
  rw [hN1] at haft
  rw [hN2, hN3] at hnote hchk hdep
  simp only [hN1] at hRES
  simp only [hN1, hN2, hN3]
  have HR := hide hRES
  clear hRES
  obtain ⟨W1, hW1, hb1, g0, hs1⟩ := new1 w (.cells #[.string ⟨n1.toArray⟩, .string ⟨a1.toArray⟩, .string ⟨u1.toArray⟩, .slice aa1 N1 ac1, .int .i64 q1, .int .i64 fi1, .int .i64 fa1, .int .i64 li1, .int .u8 k1, .string ⟨t1.toArray⟩, .slice ka1 N2 kc1, .slice da1 N3 dc1, .int .i64 l1] 63) H hH
  obtain ⟨W2, hW2, hb2, g1, hs2⟩ := new1 W1 (.cells #[.string ⟨n1.toArray⟩, .string ⟨a1.toArray⟩, .string ⟨u1.toArray⟩] 9) (H + 1) hs1
  have hin2 : InS W2 (some ⟨H + 1, 0, none⟩) [n1, a1, u1] := fun i x hx => by
    obtain ⟨⟨p0, _⟩, ⟨p1, _⟩, ⟨p2, _⟩⟩ := cell3 g1
    match i, hx with
    | 0, hx => simp at hx; subst hx; exact ⟨_, _, rfl, p0⟩
    | 1, hx => simp at hx; subst hx; exact ⟨_, _, rfl, p1⟩
    | 2, hx => simp at hx; subst hx; exact ⟨_, _, rfl, p2⟩
    | i + 3, hx => simp at hx
  have htx := texts_any (some ⟨H + 1, 0, none⟩) 3 [n1, a1, u1] W2 hin2 (by unfold maxLen; simp) (fun x hx => by simp at hx; rcases hx with rfl | rfl | rfl <;> omega)
  rw [hTT] at htx
  have hbw2 : Below H w W2 := hb1.trans (hb2.mono (by omega))
  have g0' := (hb2.block H (by omega)).trans g0
  have hbox : ∀ V, Below W2.heap.size W2 V → V.heap[H]? = _ := fun V hV => (hV.block H (by omega)).trans g0'
  obtain ⟨⟨y0, _⟩, ⟨y1, _⟩, ⟨y2, _⟩, ⟨y3, _⟩, ⟨y4, _⟩, ⟨y5, _⟩, ⟨y6, _⟩, ⟨y7, _⟩, ⟨y8, _⟩, ⟨y9, _⟩, ⟨y10, _⟩, ⟨y11, _⟩, ⟨y12, _⟩⟩ := cell13 g0
  have HTX := hide htx
  have HAF := hide haft
  have HNT := hide hnote
  have HCK := hide hchk
  have HDP := hide hdep
  have HW1 := hide hW1
  have HW2 := hide hW2
  have HBW2 := hide hbw2
  have HBOX := hide hbox
  have HFB := hide hFB
  clear htx haft hnote hchk hdep hW1 hW2 hbw2 hbox g0 g0' g1 hb1 hb2 hin2 hTT hTA hFB hNB hCE hDP hspec hin hdlt hinV hs hN1 hN2 hN3 hn1 ha1 hu1
  go_enter Tryz.func129, Tryz.ntmps129
  go_upto_region 1 with fail
  try rw [hH]
  rw [unhide HW1]
  go_upto_region 2 with (go_at_call 127; rw [unhide HW2]; refine (unhide HTX).mono ?_; rintro e w3 ⟨rfl, hb3⟩)
  clear y0 y1 y2 y3 y4 y5 y6 y7 y8 y9 y10 y11 y12
  obtain ⟨⟨y0, _⟩, ⟨y1, _⟩, ⟨y2, _⟩, ⟨y3, _⟩, ⟨y4, _⟩, ⟨y5, _⟩, ⟨y6, _⟩, ⟨y7, _⟩, ⟨y8, _⟩, ⟨y9, _⟩, ⟨y10, _⟩, ⟨y11, _⟩, ⟨y12, _⟩⟩ := cell13 (unhide HBOX w3 hb3)
  have hz3 := hb3.size
  have hbw3 : Below H w w3 := (unhide HBW2).trans (hb3.mono (by omega))
  have HB3 := hide hb3
  have HBW3 := hide hbw3
  clear hb3 hbw3
  by_cases c1 : TT = 0
  rotate_left
  · have d1 : (TT != 0) = true := by simpa using c1
    have hr := unhide HR
    rw [if_pos c1] at hr
    subst hr
    clear HR
    clear c1
    go_wp2
    go_ret
    exact ⟨rfl, unhide HBW3⟩
  subst c1
  have hr := unhide HR
  rw [if_neg (by simp)] at hr
  have HR := hide hr
  clear hr
  by_cases c2 : 64 < N1
  · have d2 : (64 : Int) < (N1 : Int) := by omega
    have hr := unhide HR
    rw [if_pos c2] at hr
    subst hr
    clear HR
    clear c2
    go_wp2
    go_ret
    exact ⟨rfl, unhide HBW3⟩
  have d2 : (N1 : Int) ≤ 64 := by omega
  have hr := unhide HR
  rw [if_neg c2] at hr
  have HR := hide hr
  clear hr
  clear c2
  go_upto_region 7 with (go_at_call 127; refine (unhide HAF _ (unhide HBW3)).mono ?_; rintro e w4 ⟨rfl, hb4⟩)
  clear y0 y1 y2 y3 y4 y5 y6 y7 y8 y9 y10 y11 y12
  have hb34 := (unhide HB3).trans (hb4.mono hz3)
  obtain ⟨⟨y0, _⟩, ⟨y1, _⟩, ⟨y2, _⟩, ⟨y3, _⟩, ⟨y4, _⟩, ⟨y5, _⟩, ⟨y6, _⟩, ⟨y7, _⟩, ⟨y8, _⟩, ⟨y9, _⟩, ⟨y10, _⟩, ⟨y11, _⟩, ⟨y12, _⟩⟩ := cell13 (unhide HBOX w4 hb34)
  have hz4 := hb34.size
  have hbw4 : Below H w w4 := (unhide HBW2).trans (hb34.mono (by omega))
  obtain ⟨W5, hW5, hb5, g5, hs5⟩ := new1 w4 (.cells #[.int .i64 q1, .int .i64 fi1, .int .i64 fa1, .int .i64 li1] 3) w4.heap.size rfl
  have hb35 := hb34.trans (hb5.mono hz4)
  have hbw5 : Below H w W5 := (unhide HBW2).trans (hb35.mono (by omega))
  have hft := fits_any w4.heap.size q1 fi1 fa1 li1 W5 g5
  rw [unhide HFB] at hft
  have HFT := hide hft
  have HW5 := hide hW5
  have HB35 := hide hb35
  have HBW4 := hide hbw4
  have HBW5 := hide hbw5
  clear hft hW5 hb5 hb35 hb34 hb4 hbw4 hbw5 g5
  by_cases c3 : TA = 0
  rotate_left
  · have d3 : (TA != 0) = true := by simpa using c3
    have hr := unhide HR
    rw [if_pos c3] at hr
    subst hr
    clear HR
    clear c3
    go_wp2
    go_ret
    exact ⟨rfl, unhide HBW4⟩
  subst c3
  have hr := unhide HR
  rw [if_neg (by simp)] at hr
  have HR := hide hr
  clear hr
  cases FB with
  | false =>
    have hr := unhide HR
    rw [if_pos rfl] at hr
    subst hr
    clear HR
    go_wp2_with (go_at_call 169; rw [unhide HW5]; refine (unhide HFT).mono ?_; rintro e w' ⟨rfl, hw⟩; have hw := hw.symm; subst hw)
    go_ret
    exact ⟨rfl, unhide HBW5⟩
  | true =>
    have hr := unhide HR
    rw [if_neg (by simp)] at hr
    have HR := hide hr
    clear hr
    go_upto_region 11 with (go_at_call 169; rw [unhide HW5]; refine (unhide HFT).mono ?_; rintro e w' ⟨rfl, hw⟩; have hw := hw.symm; subst hw)
    clear y0 y1 y2 y3 y4 y5 y6 y7 y8 y9 y10 y11 y12
    obtain ⟨_, _, _, _, _, _, _, _, ⟨y8, _⟩, ⟨y9, _⟩, ⟨y10, _⟩, ⟨y11, _⟩, ⟨y12, _⟩⟩ := cell13 (unhide HBOX W5 (unhide HB35))
    cases NB with
    | true =>
      have hr := unhide HR
      rw [if_pos rfl] at hr
      subst hr
      clear HR
      go_wp2_with (go_at_call 170; refine (unhide HNT _ (unhide HBW5)).mono ?_; rintro e w6 ⟨rfl, hb6⟩)
      go_ret
      exact ⟨rfl, (unhide HBW5).trans (hb6.mono (by omega))⟩
    | false =>
      have hr := unhide HR
      rw [if_neg (by simp)] at hr
      have HR := hide hr
      clear hr
      go_upto_region 13 with (go_at_call 170; refine (unhide HNT _ (unhide HBW5)).mono ?_; rintro e w6 ⟨rfl, hb6⟩)
      have hz5 := (unhide HB35).size
      have hb36 := (unhide HB35).trans (hb6.mono hz5)
      have hbw6 : Below H w w6 := (unhide HBW5).trans (hb6.mono (by omega))
      clear y8 y9 y10 y11 y12
      obtain ⟨_, _, _, _, _, _, _, _, ⟨y8, _⟩, ⟨y9, _⟩, ⟨y10, _⟩, ⟨y11, _⟩, ⟨y12, _⟩⟩ := cell13 (unhide HBOX w6 hb36)
      have hz6 := hb36.size
      have HB36 := hide hb36
      have HBW6 := hide hbw6
      clear hb36 hbw6 hb6
      go_upto_region 14 with (go_at_call 171; refine (unhide HCK _ (unhide HBW6)).mono ?_; rintro e w7 ⟨rfl, hb7⟩)
      have hb37 := (unhide HB36).trans (hb7.mono hz6)
      have hbw7 : Below H w w7 := (unhide HBW6).trans (hb7.mono (by omega))
      clear y8 y9 y10 y11 y12
      obtain ⟨_, _, _, _, _, _, _, _, ⟨y8, _⟩, ⟨y9, _⟩, ⟨y10, _⟩, ⟨y11, _⟩, ⟨y12, _⟩⟩ := cell13 (unhide HBOX w7 hb37)
      have hz7 := hb37.size
      have HB37 := hide hb37
      have HBW7 := hide hbw7
      clear hb37 hbw7 hb7
      by_cases c4 : CE = 0
      rotate_left
      · have d4 : (CE != 0) = true := by simpa using c4
        have hr := unhide HR
        rw [if_pos c4] at hr
        subst hr
        clear HR
        clear c4
        go_wp2
        go_ret
        exact ⟨rfl, unhide HBW7⟩
      subst c4
      have hr := unhide HR
      rw [if_neg (by simp)] at hr
      have HR := hide hr
      clear hr
      by_cases c5 : 13 < DP
      · have d5 : (13 : Int) < (DP : Int) := by omega
        have hr := unhide HR
        rw [if_pos c5] at hr
        subst hr
        clear HR
        clear c5
        go_wp2_with (go_at_call 172; refine (unhide HDP _ (unhide HBW7)).mono ?_; rintro e w8 ⟨rfl, hb8⟩)
        go_ret
        exact ⟨rfl, (unhide HBW7).trans (hb8.mono (by omega))⟩
      · have d5 : (DP : Int) ≤ 13 := by omega
        have hr := unhide HR
        rw [if_neg c5] at hr
        subst hr
        clear HR
        clear c5
        go_wp2_with (go_at_call 172; refine (unhide HDP _ (unhide HBW7)).mono ?_; rintro e w8 ⟨rfl, hb8⟩)
        go_ret
        exact ⟨rfl, (unhide HBW7).trans (hb8.mono (by omega))⟩
end Go.Proofs.YtefokfbgpfcbkaaGreat
namespace Go.Proofs.YtefokfbgpfcbkaaGreat
set_option linter.unusedVariables false
set_option linter.unusedSimpArgs false
open Go.RowKit
structure PDef.short (d : PDef) : Prop where
  name : d.name.length ≤ 1000000
  text : d.text.length ≤ 1000000
  len : d.steps.length ≤ 100000
  st : ∀ s ∈ d.steps, s.short
theorem two_cells {W : World} {g : Nat} {T : TypeId} {a b : Value} (h : W.heap[g]? = some (.cells #[a, b] T)) : (W.cell? ⟨g, 0, none⟩ = some a ∧ W.frozen? ⟨g, 0, none⟩ = false) ∧ (W.cell? ⟨g, 1, none⟩ = some b ∧ W.frozen? ⟨g, 1, none⟩ = false) := by
  simp [World.cell?, World.frozen?, h]
theorem two_put {W : World} {g : Nat} {T : TypeId} {a b : Value} (h : W.heap[g]? = some (.cells #[a, b] T)) (u v : Value) : ((W.setCell ⟨g, 0, none⟩ u).setCell ⟨g, 1, none⟩ v).heap[g]? = some (.cells #[u, v] T) := by
  simp [World.setCell, Array.getElem?_modify, h]
theorem fault_load {W : World} {g : Nat} {a b : Value} (h : W.heap[g]? = some (.cells #[a, b] 127)) : (loadVar 127 ⟨g, 0, none⟩).run Tryz.prog W = .ok (.agg #[a, b]) W := run_loadVar_row _ _ _ _ _ _ _ h Tryz.underlying127 rfl (by kernel_rfl)
structure DcI (w V : World) (H : Nat) (d : PDef) : Prop where
  df : V.heap[H]? = some (defO d)
  fa : V.heap[H + 1]? = some (.cells #[.int .i64 0, .int .i64 0] 127)
  bel : Below H w V
  size : H + 2 ≤ V.heap.size
theorem DcI.keep {w V V' : World} {H : Nat} {d : PDef} (h : DcI w V H d) (hb : Below V.heap.size V V') : DcI w V' H d := by
  have hz := h.size
  exact ⟨(hb.block _ (by omega)).trans h.df, (hb.block _ (by omega)).trans h.fa, h.bel.trans (hb.mono (by omega)), Nat.le_trans h.size hb.size⟩
theorem DcI.out {w V : World} {H : Nat} {d : PDef} (h : DcI w V H d) (e l : Value) : Below H w ((V.setCell ⟨H + 1, 0, none⟩ e).setCell ⟨H + 1, 1, none⟩ l) :=
  (h.bel.setCell (p := ⟨H + 1, 0, none⟩) (Nat.le_succ H) _).setCell (p := ⟨H + 1, 1, none⟩) (Nat.le_succ H) _
theorem stepsE_drop (ss : List P22.Step) (i : Nat) (s : P22.Step) (h : ss[i]? = some s) : P28.stepsE i (ss.drop i) = if P28.stepE s ≠ 0 then (P28.stepE s, (i : Int) + 1) else P28.stepsE (i + 1) (ss.drop (i + 1)) := by
  have e : ss.drop i = s :: ss.drop (i + 1) := by
    obtain ⟨h1, h2⟩ := List.getElem?_eq_some_iff.1 h
    rw [← h2]
    exact List.drop_eq_getElem_cons h1
  rw [e]
  rfl
set_option maxRecDepth 100000 in
set_option maxHeartbeats 8000000 in
theorem defCheck_any (d : PDef) (w : World) (hin : d.In w) (hs : d.short) :
    Calls Tryz.prog 80 #[d.val] w fun e w' => e = .returned (.agg #[.int .i64 (P28.defE d.bare).1, .int .i64 (P28.defE d.bare).2]) ∧ Below w.heap.size w w' := by
  obtain ⟨H, hH⟩ : ∃ H, w.heap.size = H := ⟨_, rfl⟩
  rw [hH]
  have hdlt := fun r (hr : d.blk r) => hin.lt hr
  rw [hH] at hdlt
  have hinV : ∀ V, Below H w V → d.In V := fun V hV => hin.keep (fun r hr => hV.block r (hdlt r hr))
  have hbl : d.bare.steps = d.steps.map PSt.bare := rfl
  have hspec : P28.defE d.bare = if P28.texts [d.name] ≠ 0 then (P28.texts [d.name], 0) else if P03.check d.text 4096 ≠ 0 then (P03.check d.text 4096, 0) else if 1024 < d.steps.length then (2, 0) else P28.stepsE 0 (d.steps.map PSt.bare) := by
    unfold P28.defE
    rw [hbl, List.length_map]
    have e1 : P28.texts [d.name] = if P03.check d.name 64 ≠ 0 then P03.check d.name 64 else 0 := rfl
    rw [e1]
    show (if P03.check d.name 64 ≠ 0 then _ else _) = _
    by_cases h : P03.check d.name 64 = 0
    · have h' : P03.check d.bare.name 64 = 0 := h
      rw [h', h]
      rfl
    · have h' : ¬ P03.check d.bare.name 64 = 0 := h
      rw [if_pos h, if_pos h, if_pos h]
      rfl
  obtain ⟨W1, hW1, hb1, g0, g1, hs1⟩ := new2 w (defO d) (.cells #[.int .i64 0, .int .i64 0] 127) H hH
  obtain ⟨W2, hW2, hb2, g2, hs2⟩ := new1 W1 (.cells #[.string ⟨d.name.toArray⟩] 9) (H + 1 + 1) hs1
  have hD2 : DcI w W2 H d := ⟨(hb2.block _ (by omega)).trans g0, (hb2.block _ (by omega)).trans g1, hb1.trans (hb2.mono (by omega)), by omega⟩
  have hin2 : InS W2 (some ⟨H + 1 + 1, 0, none⟩) [d.name] := fun i x hx => by
    match i, hx with
    | 0, hx => simp at hx; subst hx; exact ⟨_, _, rfl, (cell1 g2).1⟩
    | i + 1, hx => simp at hx
  have htx := texts_any (some ⟨H + 1 + 1, 0, none⟩) 1 [d.name] W2 hin2 (by unfold maxLen; simp) (fun x hx => by simp at hx; subst hx; have := hs.name; omega)
  have hck := fun V => Check_any ⟨d.text.toArray⟩ 4096 V (by rw [Lib.size_eq]; have := hs.text; show d.text.length ≤ 1100000; omega)
  simp only [list_data] at hck
  obtain ⟨TT, hTT⟩ : ∃ T, P28.texts [d.name] = T := ⟨_, rfl⟩
  obtain ⟨TC, hTC⟩ : ∃ T, P03.check d.text 4096 = T := ⟨_, rfl⟩
  obtain ⟨RES, hRES⟩ : ∃ R, P28.defE d.bare = R := ⟨_, rfl⟩
  rw [hTT] at htx
  rw [hTC] at hck
  rw [hTT, hTC] at hspec
  rw [hRES] at hspec ⊢
  have hst := hs.st
  have hln := hs.len
  obtain ⟨⟨k0, _⟩, ⟨k1, _⟩, ⟨k2, _⟩⟩ := cell3 g0
  obtain ⟨⟨p0, q0⟩, ⟨p1, q1⟩⟩ := two_cells g1
  have HTX := hide htx
  have HCK := hide hck
  have HR := hide hspec.symm
  have HIN := hide hinV
  have HST := hide hst
  have HW1 := hide hW1
  have HW2 := hide hW2
  have HD2 := hide hD2
  clear htx hck hspec hinV hst hW1 hW2 hD2 hin2 g0 g1 g2 hb1 hb2 hTT hTC hRES hin hdlt hbl hs
  unfold defO at HW1
  obtain ⟨nm, tx, sa, sc, ss⟩ := d
  obtain ⟨M, hM⟩ : ∃ M, ss.length = M := ⟨_, rfl⟩
  unfold PDef.val
  simp only at k0 k1 k2 HW1 HW2 HTX HCK HR HST hln ⊢
  rw [hM] at k2 HW1 HR hln ⊢
  have HM := hide hM
  clear hM
  go_enter Tryz.func80, Tryz.ntmps80
  go_wp2
  go_step3
  go_upto_region 1 with fail
  try rw [hH]
  rw [unhide HW1]
  go_upto_region 2 with (go_at_call 127; rw [unhide HW2]; refine (unhide HTX).mono ?_; rintro e w3 ⟨rfl, hb3⟩)
  have hD3 := (unhide HD2).keep hb3
  clear k0 k1 k2 p0 p1 q0 q1
  obtain ⟨⟨k0, _⟩, ⟨k1, _⟩, ⟨k2, _⟩⟩ := cell3 hD3.df
  obtain ⟨⟨p0, q0⟩, ⟨p1, q1⟩⟩ := two_cells hD3.fa
  simp only [unhide HM] at k0 k1 k2
  have HD3 := hide hD3
  clear hD3 hb3
  by_cases c1 : TT = 0
  rotate_left
  · have d1 : (TT == 0) = false := by simpa using c1
    have d1' : (TT != 0) = true := by simpa using c1
    have hr := unhide HR
    rw [if_pos c1] at hr
    subst hr
    clear HR c1
    go_wp2
    (try rw [Exit.noGoto_ret])
    (try simp only [Exit.inBlock, Exit.then])
    have hD := unhide HD3
    refine bodyPost_ret (results_c1 rfl _ _ _ (H + 1) _ rfl (fault_load (two_put hD.fa _ _))) rfl ?_
    exact ⟨rfl, hD.out _ _⟩
  subst c1
  have hr := unhide HR
  rw [if_neg (by simp)] at hr
  have HR := hide hr
  clear hr
  go_upto_region 4 with (go_at_call 128; refine (unhide HCK _).mono ?_; rintro e w4 ⟨rfl, hb4⟩)
  have hD4 := (unhide HD3).keep hb4
  clear k0 k1 k2 p0 p1 q0 q1
  obtain ⟨⟨k0, _⟩, ⟨k1, _⟩, ⟨k2, _⟩⟩ := cell3 hD4.df
  obtain ⟨⟨p0, q0⟩, ⟨p1, q1⟩⟩ := two_cells hD4.fa
  simp only [unhide HM] at k0 k1 k2
  have HD4 := hide hD4
  clear hD4 hb4
  by_cases c2 : TC = 0
  rotate_left
  · have d1 : (TC == 0) = false := by simpa using c2
    have d1' : (TC != 0) = true := by simpa using c2
    have hr := unhide HR
    rw [if_pos c2] at hr
    subst hr
    clear HR c2
    go_wp2
    (try rw [Exit.noGoto_ret])
    (try simp only [Exit.inBlock, Exit.then])
    have hD := unhide HD4
    refine bodyPost_ret (results_c1 rfl _ _ _ (H + 1) _ rfl (fault_load (two_put hD.fa _ _))) rfl ?_
    exact ⟨rfl, hD.out _ _⟩
  subst c2
  have hr := unhide HR
  rw [if_neg (by simp)] at hr
  have HR := hide hr
  clear hr
  by_cases c3 : 1024 < M
  · have d1 : (1024 : Int) < (M : Int) := by omega
    have hr := unhide HR
    rw [if_pos c3] at hr
    subst hr
    clear HR c3
    go_wp2
    (try rw [Exit.noGoto_ret])
    (try simp only [Exit.inBlock, Exit.then])
    have hD := unhide HD4
    refine bodyPost_ret (results_c1 rfl _ _ _ (H + 1) _ rfl (fault_load (two_put hD.fa _ _))) rfl ?_
    exact ⟨rfl, hD.out _ _⟩
  have d1 : (M : Int) ≤ 1024 := by omega
  have hr := unhide HR
  rw [if_neg c3] at hr
  have HR := hide hr
  clear hr c3
  go_upto_region 8 with fail
  go_step3
  go_wp2
  go_loopg [31] M (fun g s31 wx => ∃ (i : Nat), i + g = M ∧ s31 = .int .i64 i ∧ Hid (DcI w wx H ⟨nm, tx, sa, sc, ss⟩) ∧ Hid (P28.stepsE i ((ss.map PSt.bare).drop i) = RES))
  case atStart => exact ⟨0, by omega, by go_num, HD4, by simpa using HR⟩
  case round =>
    obtain ⟨i, hig, rfl, HD, HE⟩ := hrel
    clear k0 k1 k2 p0 p1 q0 q1
    have hD := unhide HD
    cases gk with
    | zero =>
      have e1 : (M : Int) ≤ (i : Int) := by omega
      have j1 : decide ((i : Int) < (M : Int)) = false := by simp; omega
      have hr := unhide HE
      rw [List.drop_of_length_le (by rw [List.length_map, unhide HM]; omega)] at hr
      have hr : ((0 : Int), (0 : Int)) = RES := hr
      subst hr
      obtain ⟨⟨p0, q0⟩, ⟨p1, q1⟩⟩ := two_cells hD.fa
      clear HE HR hD
      go_wp2
      (try rw [Exit.noGoto_ret])
      (try simp only [Exit.inBlock, Exit.then])
      have hD := unhide HD
      refine bodyPost_ret (results_c1 rfl _ _ _ (H + 1) _ rfl (fault_load (two_put hD.fa _ _))) rfl ?_
      exact ⟨rfl, hD.out _ _⟩
    | succ g' =>
      have hlt : (i : Int) < (M : Int) := by omega
      have hki : IntKind.i64.wrap ((i : Int) + 1) = (i : Int) + 1 := IntWalk.i64_in _ (by omega)
      obtain ⟨s1, hg1⟩ := nth_of (unhide HM) (show i < M by omega)
      have hst1 := unhide HST s1 (List.mem_of_getElem? hg1)
      have hwa := ((unhide HIN) wr hD.bel).steps
      obtain ⟨b1, o1, rfl, c1, hi1⟩ := hwa.get hg1
      have hbr : (ss.map PSt.bare)[i]? = some s1.bare := by rw [List.getElem?_map, hg1]; rfl
      have hee := unhide HE
      rw [stepsE_drop _ i _ hbr] at hee
      have hzr := hD.size
      obtain ⟨K, hK⟩ : ∃ K, wr.heap.size = K := ⟨_, rfl⟩
      have hstep := fun V (hV : Below K wr V) => step21_any s1 V (hi1.below (by rw [hK]; exact hV)) hst1
      obtain ⟨EE, hEE⟩ : ∃ E, P28.stepE s1.bare = E := ⟨_, rfl⟩
      rw [hEE] at hee hstep
      obtain ⟨n1, a1, u1, aa1, ac1, af1, q1, fi1, fa1, li1, ⟨k1, t1, ka1, kc1, ks1, da1, dc1, ds1, l1⟩⟩ := s1
      obtain ⟨⟨c0, c1, c2, c3⟩, ⟨c4, c5, c6, c7⟩, ⟨c8, c9, c10, c11, c12⟩⟩ := step_cells c1
      simp only [PSt.aV, Nd.kind, Nd.text, Nd.kV, Nd.dV, Nd.line, Nd.ka, Nd.kc, Nd.keys, Nd.da, Nd.dc, Nd.kids] at c0 c1 c2 c3 c4 c5 c6 c7 c8 c9 c10 c11 c12
      simp only [PSt.val_eqn] at hstep
      obtain ⟨N1, hN1⟩ : ∃ N1, af1.length = N1 := ⟨_, rfl⟩
      obtain ⟨N2, hN2⟩ : ∃ N2, ks1.length = N2 := ⟨_, rfl⟩
      obtain ⟨N3, hN3⟩ : ∃ N3, ds1.length = N3 := ⟨_, rfl⟩
      rw [hN1] at c3 hstep
      rw [hN2] at c10 hstep
      rw [hN3] at c11 hstep
      obtain ⟨V1, hV1, hv1, r0, hsv⟩ := new1 wr (.cells #[.string ⟨n1.toArray⟩, .string ⟨a1.toArray⟩, .string ⟨u1.toArray⟩, .slice aa1 N1 ac1, .int .i64 q1, .int .i64 fi1, .int .i64 fa1, .int .i64 li1, .int .u8 k1, .string ⟨t1.toArray⟩, .slice ka1 N2 kc1, .slice da1 N3 dc1, .int .i64 l1] 63) K hK
      have hst2 := hstep V1 hv1
      obtain ⟨⟨k0, _⟩, ⟨k1', _⟩, ⟨k2, _⟩⟩ := cell3 hD.df
      simp only [unhide HM] at k0 k1' k2
      obtain ⟨⟨y0, _⟩, ⟨y1, _⟩, ⟨y2, _⟩, ⟨y3, _⟩, ⟨y4, _⟩, ⟨y5, _⟩, ⟨y6, _⟩, ⟨y7, _⟩, ⟨y8, _⟩, ⟨y9, _⟩, ⟨y10, _⟩, ⟨y11, _⟩, ⟨y12, _⟩⟩ := cell13 r0
      have hD1 := hD.keep (by rw [hK]; exact hv1)
      have HS2 := hide hst2
      have HV1 := hide hV1
      have HD1 := hide hD1
      have HEE := hide hee
      clear hst2 hV1 hD1 hee hD r0 hv1 hstep hEE hbr hwa hi1 hg1 hst1 hN1 hN2 hN3 HE HR
      go_upto_region 11 with fail
      try rw [hK]
      rw [unhide HV1]
      go_upto_region 12 with (go_at_call 129; refine (unhide HS2).mono ?_; rintro e w5 ⟨rfl, hb5⟩)
      have hD5 := (unhide HD1).keep hb5
      have HD5 := hide hD5
      clear y0 y1 y2 y3 y4 y5 y6 y7 y8 y9 y10 y11 y12 k0 k1' k2 hb5
      by_cases cE : EE = 0
      · subst cE
        have hee := unhide HEE
        rw [if_neg (by simp)] at hee
        have HE2 := hide hee
        clear hee hD5
        go_wp2
        go_roundg g'
        case measure => omega
        case rel => exact ⟨i + 1, by omega, by go_num, HD5, HE2⟩
      · have d2 : (EE == 0) = false := by simpa using cE
        have hee := unhide HEE
        rw [if_pos cE] at hee
        subst hee
        obtain ⟨⟨p0, q0⟩, ⟨p1, q1⟩⟩ := two_cells hD5.fa
        clear HEE cE hD5
        go_wp2
        (try rw [Exit.noGoto_ret])
        (try simp only [Exit.inBlock, Exit.then])
        have hD := unhide HD5
        refine bodyPost_ret (results_c1 rfl _ _ _ (H + 1) _ rfl (fault_load (two_put hD.fa _ _))) rfl ?_
        exact ⟨rfl, hD.out _ _⟩
end Go.Proofs.YtefokfbgpfcbkaaGreat
namespace Go.Proofs.YtefokfbgpfcbkaaGreat
set_option linter.unusedVariables false
set_option linter.unusedSimpArgs false
open Go.RowKit
def cutS (s : P22.Step) : P22.Step := { s with note := s.note.cut 18 }
def cutD (d : P22.Def) : P22.Def := { d with steps := d.steps.map cutS }
structure RowS (V : World) (b : Nat) (L : List PSt) : Prop where
  ex : ∃ N f, V.rowIs b 63 N f ∧ L.length * 13 ≤ N ∧ ∀ j s, L[j]? = some s → ∀ k v, s.cs[k]? = some v → f (j * 13 + k) = v
theorem PSt.cs_len (s : PSt) : s.cs.length = 13 := rfl
theorem RowS.keep {V V' : World} {b : Nat} {L : List PSt} (h : RowS V b L) (hb : V'.heap[b]? = V.heap[b]?) : RowS V' b L := by
  obtain ⟨N, f, h1, h2, h3⟩ := h.ex
  exact ⟨N, f, h1.of_block hb, h2, h3⟩
theorem RowS.lt {V : World} {b : Nat} {L : List PSt} (h : RowS V b L) : b < V.heap.size := by
  obtain ⟨N, f, h1, h2, h3⟩ := h.ex
  exact h1.lt
theorem RowS.cell {V : World} {b : Nat} {L : List PSt} (h : RowS V b L) {j : Nat} {s : PSt} (hj : L[j]? = some s) {k : Nat} {v : Value} (hk : s.cs[k]? = some v) : V.cell? ⟨b, j * 13 + k, none⟩ = some v := by
  obtain ⟨N, f, h1, h2, h3⟩ := h.ex
  have hjl := (List.getElem?_eq_some_iff.1 hj).1
  have hkl := (List.getElem?_eq_some_iff.1 hk).1
  rw [PSt.cs_len] at hkl
  rw [h1.cell (i := j * 13 + k) (by omega), h3 j s hj k v hk]
theorem RowS.cells {V : World} {b : Nat} {L : List PSt} (h : RowS V b L) {i : Nat} {s : PSt} (hi : L[i]? = some s) :
    (V.cell? ⟨b, i * 13, none⟩ = some (.string ⟨s.name.toArray⟩) ∧ V.cell? ⟨b, i * 13 + 1, none⟩ = some (.string ⟨s.action.toArray⟩) ∧ V.cell? ⟨b, i * 13 + 2, none⟩ = some (.string ⟨s.undo.toArray⟩) ∧ V.cell? ⟨b, i * 13 + 3, none⟩ = some s.aV) ∧
    (V.cell? ⟨b, i * 13 + 4, none⟩ = some (.int .i64 s.most) ∧ V.cell? ⟨b, i * 13 + 5, none⟩ = some (.int .i64 s.first) ∧ V.cell? ⟨b, i * 13 + 6, none⟩ = some (.int .i64 s.factor) ∧ V.cell? ⟨b, i * 13 + 7, none⟩ = some (.int .i64 s.limit)) ∧
    (V.cell? ⟨b, i * 13 + 8, none⟩ = some (.int .u8 s.note.kind) ∧ V.cell? ⟨b, i * 13 + 9, none⟩ = some (.string ⟨s.note.text.toArray⟩) ∧ V.cell? ⟨b, i * 13 + 10, none⟩ = some s.note.kV ∧ V.cell? ⟨b, i * 13 + 11, none⟩ = some s.note.dV ∧ V.cell? ⟨b, i * 13 + 12, none⟩ = some (.int .i64 s.note.line)) :=
  ⟨⟨h.cell hi (k := 0) rfl, h.cell hi (k := 1) rfl, h.cell hi (k := 2) rfl, h.cell hi (k := 3) rfl⟩, ⟨h.cell hi (k := 4) rfl, h.cell hi (k := 5) rfl, h.cell hi (k := 6) rfl, h.cell hi (k := 7) rfl⟩, ⟨h.cell hi (k := 8) rfl, h.cell hi (k := 9) rfl, h.cell hi (k := 10) rfl, h.cell hi (k := 11) rfl, h.cell hi (k := 12) rfl⟩⟩
theorem RowS.frozen {V : World} {b : Nat} {L : List PSt} (h : RowS V b L) (t : Nat) : V.frozen? ⟨b, t, none⟩ = false := by
  obtain ⟨N, f, h1, h2, h3⟩ := h.ex
  exact h1.frozen t
theorem RowS.put {V : World} {b : Nat} {L : List PSt} (h : RowS V b L) {i : Nat} (hi : i < L.length) (s' : PSt) : RowS (V.setCells b (i * 13) s'.cs) b (L.set i s') := by
  obtain ⟨N, f, h1, h2, h3⟩ := h.ex
  refine ⟨N, _, rowIs_setCells s'.cs (i * 13) V f h1, by rw [List.length_set]; exact h2, fun j s hj k v hk => ?_⟩
  have hkl := (List.getElem?_eq_some_iff.1 hk).1
  rw [PSt.cs_len] at hkl
  rw [PSt.cs_len]
  rw [List.getElem?_set] at hj
  by_cases e : i = j
  · subst e
    rw [if_pos rfl, if_pos hi] at hj
    cases hj
    rw [if_pos (by omega), show i * 13 + k - i * 13 = k by omega, hk]
    rfl
  · rw [if_neg e] at hj
    rw [if_neg (by omega)]
    exact h3 j s hj k v hk
theorem RowS.inL {V : World} {b : Nat} {L : List PSt} (h : RowS V b L) (hin : ∀ s ∈ L, s.In V) : stEl.InL V (some ⟨b, 0, none⟩) L := fun j s hj => ⟨⟨b, 0, rfl, fun k v hk => by rw [Nat.zero_add]; exact h.cell hj hk⟩, hin s (List.mem_of_getElem? hj)⟩
theorem own_rowS {W : World} {B n cap g : Nat} {L : List PSt} (h : W.ownsRow B 63 13 (.slice (some ⟨g, 0, none⟩) n cap) n (L.flatMap PSt.cs)) (hn : L.length = n) : RowS W g L ∧ B ≤ g := by
  rcases h.2 with ⟨e0, _⟩ | ⟨g', cap', cur, e0, hb, hg, hnc, hm, hs, hx⟩
  · cases e0
  · injection e0 with e1 _ e3
    injection e1 with e1
    injection e1 with e1
    subst e1 e3
    refine ⟨⟨cap * 13, fun t => cur.getD t undef, ⟨cur, hg, hs, fun i hi => ?_⟩, by omega, fun j s hj k v hk => ?_⟩, hb⟩
    · rw [Array.getElem?_eq_getElem (by omega)]
      simp [Array.getD, show i < cur.size by omega]
    · have hjl := (List.getElem?_eq_some_iff.1 hj).1
      have hkl := (List.getElem?_eq_some_iff.1 hk).1
      rw [PSt.cs_len] at hkl
      have hfl : ∀ (L : List PSt) (j : Nat), L[j]? = some s → (L.flatMap PSt.cs)[j * 13 + k]? = some v := by
        intro L
        induction L with
        | nil => intro j h; simp at h
        | cons x L ih =>
          intro j h
          rw [List.flatMap_cons]
          cases j with
          | zero =>
            simp only [List.getElem?_cons_zero, Option.some.injEq] at h
            subst h
            rw [Nat.zero_mul, Nat.zero_add, List.getElem?_append_left (by rw [PSt.cs_len]; exact hkl)]
            exact hk
          | succ j =>
            rw [List.getElem?_append_right (by rw [PSt.cs_len]; omega), PSt.cs_len, show (j + 1) * 13 + k - 13 = j * 13 + k by omega]
            exact ih j (by simpa using h)
      have h1 : (cur.toList.take (n * 13))[j * 13 + k]? = some v := by rw [hx]; exact hfl L j hj
      rw [List.getElem?_take, if_pos (by omega), Array.getElem?_toList] at h1
      simp [Array.getD, (Array.getElem?_eq_some_iff.1 h1).1, (Array.getElem?_eq_some_iff.1 h1).2]
end Go.Proofs.YtefokfbgpfcbkaaGreat
namespace Go.Proofs.YtefokfbgpfcbkaaGreat
set_option linter.unusedVariables false
set_option linter.unusedSimpArgs false
open Go.RowKit
theorem flat_get : ∀ (L : List PSt) (t : Nat) (u : Value), (L.flatMap PSt.cs)[t]? = some u → ∃ s, L[t / 13]? = some s ∧ s.cs[t % 13]? = some u
  | [], t, u, h => by simp at h
  | x :: L, t, u, h => by
    rw [List.flatMap_cons] at h
    by_cases ht : t < 13
    · rw [List.getElem?_append_left (by rw [PSt.cs_len]; exact ht)] at h
      exact ⟨x, by rw [show t / 13 = 0 by omega]; rfl, by rw [show t % 13 = t by omega]; exact h⟩
    · rw [List.getElem?_append_right (by rw [PSt.cs_len]; omega), PSt.cs_len] at h
      obtain ⟨s, h1, h2⟩ := flat_get L (t - 13) u h
      exact ⟨s, by rw [show t / 13 = (t - 13) / 13 + 1 by omega]; simpa using h1, by rw [show t % 13 = (t - 13) % 13 by omega]; exact h2⟩
theorem stepInfo : (Tryz.prog.info? 63).map (fun i => (i.zero, i.size, i.bytes)) = some (some stZ, 13, 184) := by kernel_rfl
theorem clone_steps (b o c : Nat) (L : List PSt) (V : World) (h : stEl.InL V (some ⟨b, o, none⟩) L) (hl : L.length ≤ 100000) :
    Calls Tryz.prog 109 #[.slice (some ⟨b, o, none⟩) L.length c] V fun e w' => ∃ g cap, e = .returned (.slice (some ⟨g, 0, none⟩) L.length cap) ∧ RowS w' g L ∧ V.heap.size ≤ g ∧ Below V.heap.size V w' ∧ L.length ≤ cap ∧ cap ≤ maxLen := by
  obtain ⟨i, hi, hz, hsz, hby⟩ := info_parts stepInfo
  have hc := AnyE.slices_Clone Tryz.cloneSteps i stZ 13 184 hi hz hsz hby rfl (by decide) (fun w => Tryz.sizeOf63 w) b o L.length c (L.flatMap PSt.cs) V (stEl.all_len L) (by unfold maxLen; omega) (by omega) (fun j u hj => by
    obtain ⟨s, h1, h2⟩ := flat_get L j u hj
    obtain ⟨⟨b', o', e, hat⟩, _⟩ := h _ _ h1
    cases e
    have := hat _ _ h2
    rw [show o + j = o + j / 13 * 13 + j % 13 by omega]
    exact this) (fun u hu => by
    obtain ⟨s, _, hs⟩ := List.mem_flatMap.1 hu
    exact stEl.one s u hs)
  refine Calls.mono (f := 109) hc ?_
  rintro e w' ⟨v', rfl, hown, hne, hb⟩
  rcases hown.2 with ⟨e0, _⟩ | ⟨g, cap, cur, rfl, hbg, _, hc1, hc2, _⟩
  · exact absurd e0 hne
  · obtain ⟨h1, h2⟩ := own_rowS hown rfl
    exact ⟨g, cap, rfl, h1, h2, hb, hc1, hc2⟩
structure CpI (w V : World) (H bR cap : Nat) (d : PDef) (i : Nat) (L : List PSt) : Prop where
  df : V.heap[H]? = some (.cells #[.string ⟨d.name.toArray⟩, .string ⟨d.text.toArray⟩, .slice (some ⟨bR, 0, none⟩) d.steps.length cap] 24)
  zr : V.heap[H + 1]? = some (.cells #[.string ⟨#[]⟩, .string ⟨#[]⟩, .slice none 0 0] 24)
  row : RowS V bR L
  len : L.length = d.steps.length
  low : H + 2 ≤ bR
  inn : ∀ (j : Nat) (s : PSt), L[j]? = some s → s.In V
  new : ∀ (j : Nat) (s : PSt), L[j]? = some s → j < i → (∀ g, s.blk g → H + 2 ≤ g ∧ g ≠ bR) ∧ ∃ s0, d.steps[j]? = some s0 ∧ s.bare = cutS s0.bare
  old : ∀ j, i ≤ j → L[j]? = d.steps[j]?
  bel : Below H w V
theorem CpI.next {w V V' : World} {H bR cap i : Nat} {d : PDef} {L : List PSt} {s0 s' : PSt} (h : CpI w V H bR cap d i L) (hdb : ∀ g, d.blk g → g < H) (hi : L[i]? = some s0) (hb : Below V.heap.size V V') (hin : s'.In V') (hnew : ∀ g, s'.blk g → V.heap.size ≤ g) (hbare : s'.bare = cutS s0.bare) :
    CpI w (V'.setCells bR (i * 13) s'.cs) H bR cap d (i + 1) (L.set i s') := by
  have hil := (List.getElem?_eq_some_iff.1 hi).1
  have hlt := h.row.lt
  have hz := hb.size
  have hlow := h.low
  have hoth : ∀ g, g ≠ bR → (V'.setCells bR (i * 13) s'.cs).heap[g]? = V'.heap[g]? := fun g hg => by
    have : ∀ (vs : List Value) (o : Nat) (W : World), (W.setCells bR o vs).heap[g]? = W.heap[g]? := by
      intro vs
      induction vs with
      | nil => intro o W; rfl
      | cons v r ih => intro o W; exact (ih (o + 1) _).trans (Below.heap_setCell _ _ _ _ hg)
    exact this _ _ _
  have hdb0 : ∀ (j : Nat) (s : PSt), d.steps[j]? = some s → ∀ g, s.blk g → g < H := fun j s hj g hg => hdb g (.inr ⟨s, List.mem_of_getElem? hj, hg⟩)
  refine ⟨(hoth H (by omega)).trans ((hb.block H (by omega)).trans h.df), (hoth (H + 1) (by omega)).trans ((hb.block (H + 1) (by omega)).trans h.zr), (h.row.keep (hb.block bR hlt)).put hil s', by rw [List.length_set]; exact h.len, h.low, fun j s hj => ?_, fun j s hj hji => ?_, fun j hj => ?_, below_setCells (by omega) _ _ _ (h.bel.trans (hb.mono (by have := h.bel.size; omega)))⟩
  · rw [List.getElem?_set] at hj
    by_cases e : i = j
    · subst e
      rw [if_pos rfl, if_pos hil] at hj
      cases hj
      exact hin.keep (fun g hg => hoth g (by have := hnew g hg; omega))
    · rw [if_neg e] at hj
      refine (h.inn j s hj).keep (fun g hg => ?_)
      have hg2 := (h.inn j s hj).lt hg
      have hgb : g ≠ bR := by
        by_cases hji : j < i
        · exact ((h.new j s hj hji).1 g hg).2
        · rw [h.old j (by omega)] at hj
          have := hdb0 j s hj g hg
          omega
      exact (hoth g hgb).trans (hb.block g hg2)
  · rw [List.getElem?_set] at hj
    by_cases e : i = j
    · subst e
      rw [if_pos rfl, if_pos hil] at hj
      cases hj
      exact ⟨fun g hg => by have := hnew g hg; omega, s0, by rw [← h.old i (Nat.le_refl _)]; exact hi, hbare⟩
    · rw [if_neg e] at hj
      exact h.new j s hj (by omega)
  · rw [List.getElem?_set, if_neg (by omega)]
    exact h.old j (by omega)
structure PDef.cp (d : PDef) : Prop where
  len : d.steps.length ≤ 100000
  none_ : d.steps = [] → d.sa = none
  af : ∀ s ∈ d.steps, s.after.length ≤ 1000000000
  nt : ∀ s ∈ d.steps, okT s.note.bare
def CopyR (w : World) (d : PDef) (e : Ending) (w' : World) : Prop :=
  ∃ d' : PDef, e = .returned d'.val ∧ d'.In w' ∧ (∀ g, d'.blk g → w.heap.size ≤ g) ∧ d'.bare = cutD d.bare ∧ Below w.heap.size w w'
set_option maxRecDepth 100000 in
set_option maxHeartbeats 8000000 in
theorem Copy_none (nm tx : List UInt8) (sc : Nat) (w : World) : Calls Tryz.prog 67 #[.agg #[.string ⟨nm.toArray⟩, .string ⟨tx.toArray⟩, .slice none 0 sc]] w (CopyR w ⟨nm, tx, none, sc, []⟩) := by
  obtain ⟨H, hH⟩ : ∃ H, w.heap.size = H := ⟨_, rfl⟩
  have hcl := fun V => AnyE.slices_Clone_nil Tryz.cloneSteps 0 sc V
  have hcl : ∀ V, Calls Tryz.prog 109 #[.slice none 0 sc] V fun e w' => e = .returned (.slice none 0 0) ∧ w' = V := hcl
  obtain ⟨W1, hW1, hb1, g0, g1, hs1⟩ := new2 w (.cells #[.string ⟨nm.toArray⟩, .string ⟨tx.toArray⟩, .slice none 0 sc] 24) (.cells #[.string ⟨#[]⟩, .string ⟨#[]⟩, .slice none 0 0] 24) H hH
  obtain ⟨⟨k0, f0⟩, ⟨k1, f1⟩, ⟨k2, f2⟩⟩ := cell3 g0
  obtain ⟨⟨l0, m0⟩, ⟨l1, m1⟩, ⟨l2, m2⟩⟩ := cell3 g1
  have HW1 := hide hW1
  have HB1 := hide hb1
  have HG0 := hide g0
  have HG1 := hide g1
  clear hW1 hb1 g0 g1
  unfold CopyR
  rw [hH]
  go_enter Tryz.func67, Tryz.ntmps67
  go_upto_region 1 with fail
  try rw [hH]
  rw [unhide HW1]
  go_upto_region 2 with (go_at_call 109; refine (hcl _).mono ?_; rintro e w' ⟨rfl, hw⟩; have hw := hw.symm; subst hw)
  obtain ⟨W2, hW2⟩ : ∃ W2, W1.setCell ⟨H, 2, none⟩ (.slice none 0 0) = W2 := ⟨_, rfl⟩
  rw [hW2]
  have g2 : W2.heap[H]? = some (.cells #[.string ⟨nm.toArray⟩, .string ⟨tx.toArray⟩, .slice none 0 0] 24) := by
    have h := unhide HG0
    rw [← hW2]
    simp [World.setCell, Array.getElem?_modify, h]
  have g3 : W2.heap[H + 1]? = some (.cells #[.string ⟨#[]⟩, .string ⟨#[]⟩, .slice none 0 0] 24) := by rw [← hW2]; exact (Below.heap_setCell _ _ _ _ (by show H + 1 ≠ H; omega)).trans (unhide HG1)
  have hb2 : Below H w W2 := by rw [← hW2]; exact (unhide HB1).setCell (p := ⟨H, 2, none⟩) (Nat.le_refl H) _
  clear k0 k1 k2 f0 f1 f2 l0 l1 l2 m0 m1 m2 hW2
  obtain ⟨⟨k0, f0⟩, ⟨k1, f1⟩, ⟨k2, f2⟩⟩ := cell3 g2
  obtain ⟨⟨l0, m0⟩, ⟨l1, m1⟩, ⟨l2, m2⟩⟩ := cell3 g3
  have HG3 := hide g3
  have HB2 := hide hb2
  clear g2 g3 hb2
  go_wp2
  refine wp_loop_rounds 1 ?_
  rw [rounds_succ]
  go_wp2
  (try simp only [Exit.inBlock, Exit.then])
  have g3 := unhide HG3
  have g4 : (((W2.setCell ⟨H + 1, 0, none⟩ (.string ⟨nm.toArray⟩)).setCell ⟨H + 1, 1, none⟩ (.string ⟨tx.toArray⟩)).setCell ⟨H + 1, 2, none⟩ (.slice none 0 0)).heap[H + 1]? = some (.cells #[.string ⟨nm.toArray⟩, .string ⟨tx.toArray⟩, .slice none 0 0] 24) := by
    simp [World.setCell, Array.getElem?_modify, g3]
  refine bodyPost_ret (results_c1 rfl _ _ _ (H + 1) _ rfl (cellDef g4)) rfl ?_
  refine ⟨⟨nm, tx, none, 0, []⟩, rfl, ⟨El.InL.nil _ _, Nat.le_refl _, Nat.zero_le _⟩, fun g hg => ?_, rfl, ?_⟩
  · rcases hg with ⟨h, _⟩ | ⟨s, h, _⟩
    · exact absurd rfl h
    · cases h
  · exact (((unhide HB2).setCell (p := ⟨H + 1, 0, none⟩) (Nat.le_succ H) _).setCell (p := ⟨H + 1, 1, none⟩) (Nat.le_succ H) _).setCell (p := ⟨H + 1, 2, none⟩) (Nat.le_succ H) _
set_option maxRecDepth 100000 in
set_option maxHeartbeats 8000000 in
theorem Copy_some (nm tx : List UInt8) (b0 o0 sc : Nat) (ss : List PSt) (w : World) (hin : PDef.In w ⟨nm, tx, some ⟨b0, o0, none⟩, sc, ss⟩) (hcp : PDef.cp ⟨nm, tx, some ⟨b0, o0, none⟩, sc, ss⟩) (hne : ss ≠ []) :
    Calls Tryz.prog 67 #[.agg #[.string ⟨nm.toArray⟩, .string ⟨tx.toArray⟩, .slice (some ⟨b0, o0, none⟩) ss.length sc]] w (CopyR w ⟨nm, tx, some ⟨b0, o0, none⟩, sc, ss⟩) := by
  obtain ⟨H, hH⟩ : ∃ H, w.heap.size = H := ⟨_, rfl⟩
  have hdlt : ∀ g, PDef.blk ⟨nm, tx, some ⟨b0, o0, none⟩, sc, ss⟩ g → g < H := fun g hg => by rw [← hH]; exact hin.lt hg
  have hcl := fun V (hV : Below H w V) => clone_steps b0 o0 sc ss V (hin.steps.keep (fun g hg => hV.block g (hdlt g hg))) hcp.len
  obtain ⟨W1, hW1, hb1, g0, g1, hs1⟩ := new2 w (.cells #[.string ⟨nm.toArray⟩, .string ⟨tx.toArray⟩, .slice (some ⟨b0, o0, none⟩) ss.length sc] 24) (.cells #[.string ⟨#[]⟩, .string ⟨#[]⟩, .slice none 0 0] 24) H hH
  obtain ⟨⟨k0, f0⟩, ⟨k1, f1⟩, ⟨k2, f2⟩⟩ := cell3 g0
  have hsin : ∀ (j : Nat) (s : PSt), ss[j]? = some s → s.In w := fun j s hj => (hin.steps j s hj).2
  have hln : ss.length ≤ 100000 := hcp.len
  have haf : ∀ s ∈ ss, s.after.length ≤ 1000000000 := hcp.af
  have hnt : ∀ s ∈ ss, okT s.note.bare := hcp.nt
  obtain ⟨M, hM⟩ : ∃ M, ss.length = M := ⟨_, rfl⟩
  rw [hM] at hcl hW1 g0 k2 hln ⊢
  have HW1 := hide hW1
  have HB1 := hide hb1
  have HG0 := hide g0
  have HG1 := hide g1
  have HCL := hide hcl
  have HIN := hide hsin
  have HDLT := hide hdlt
  have HAF := hide haf
  have HNT := hide hnt
  have HM := hide hM
  have HNE := hide hne
  clear hW1 hb1 g0 g1 hcl hsin hdlt haf hnt hM hne hin hcp
  unfold CopyR
  rw [hH]
  go_enter Tryz.func67, Tryz.ntmps67
  go_upto_region 1 with fail
  try rw [hH]
  rw [unhide HW1]
  go_upto_region 2 with (go_at_call 109; refine (unhide HCL _ (unhide HB1)).mono ?_; rintro e w2 ⟨bR, cap, rfl, hrow, hbR, hb2, hcp1, hcp2⟩; have hdf2 := (hb2.block H (by omega)).trans (unhide HG0); obtain ⟨_, _, ⟨_, fz2⟩⟩ := cell3 hdf2; have HDF2 := hide hdf2; clear hdf2)
  obtain ⟨W3, hW3⟩ : ∃ W3, w2.setCell ⟨H, 2, none⟩ (.slice (some ⟨bR, 0, none⟩) M cap) = W3 := ⟨_, rfl⟩
  rw [hW3]
  have hs2 := hb2.size
  have hoth : ∀ g, g ≠ H → W3.heap[g]? = w2.heap[g]? := fun g hg => by rw [← hW3]; exact Below.heap_setCell _ _ _ _ hg
  have g2 : W3.heap[H]? = some (.cells #[.string ⟨nm.toArray⟩, .string ⟨tx.toArray⟩, .slice (some ⟨bR, 0, none⟩) ss.length cap] 24) := by
    have h := unhide HDF2
    rw [← hW3, unhide HM]
    simp [World.setCell, Array.getElem?_modify, h]
  have hb3 : Below H w W3 := by rw [← hW3]; exact ((unhide HB1).trans (hb2.mono (by omega))).setCell (p := ⟨H, 2, none⟩) (Nat.le_refl H) _
  have hI : CpI w W3 H bR cap ⟨nm, tx, some ⟨b0, o0, none⟩, sc, ss⟩ 0 ss := ⟨g2, (hoth _ (by omega)).trans ((hb2.block _ (by omega)).trans (unhide HG1)), hrow.keep (hoth bR (by omega)), rfl, by omega, fun j s hj => (unhide HIN j s hj).keep (fun g hg => hb3.block g (unhide HDLT g (.inr ⟨s, List.mem_of_getElem? hj, hg⟩))), fun j s _ h => by omega, fun j _ => rfl, hb3⟩
  have HI := hide hI
  clear k0 k1 k2 f0 f1 f2 fz2 hW3 hoth g2 hb3 hI hrow hb2 HDF2
  obtain ⟨⟨k0, f0⟩, ⟨k1, f1⟩, ⟨k2, f2⟩⟩ := cell3 (unhide HI).df
  simp only [unhide HM] at k0 k1 k2
  go_wp2
  go_loopg [12] M (fun g s12 wx => ∃ (i : Nat) (L : List PSt), i + g = M ∧ s12 = .int .i64 i ∧ Hid (CpI w wx H bR cap ⟨nm, tx, some ⟨b0, o0, none⟩, sc, ss⟩ i L))
  case atStart => exact ⟨0, ss, by omega, by go_num, HI⟩
  case round =>
    obtain ⟨i, L, hig, rfl, HI2⟩ := hrel
    clear k0 k1 k2 f0 f1 f2
    cases gk with
    | zero =>
      have e1 : (M : Int) ≤ (i : Int) := by omega
      have j1 : decide ((i : Int) < (M : Int)) = false := by simp; omega
      obtain ⟨⟨k0, f0⟩, ⟨k1, f1⟩, ⟨k2, f2⟩⟩ := cell3 (unhide HI2).df
      simp only [unhide HM] at k0 k1 k2
      obtain ⟨⟨l0, m0⟩, ⟨l1, m1⟩, ⟨l2, m2⟩⟩ := cell3 (unhide HI2).zr
      go_wp2
      (try simp only [Exit.inBlock, Exit.then])
      have hi := unhide HI2
      have g3 := hi.zr
      have g4 : (((wr.setCell ⟨H + 1, 0, none⟩ (.string ⟨nm.toArray⟩)).setCell ⟨H + 1, 1, none⟩ (.string ⟨tx.toArray⟩)).setCell ⟨H + 1, 2, none⟩ (.slice (some ⟨bR, 0, none⟩) M cap)).heap[H + 1]? = some (.cells #[.string ⟨nm.toArray⟩, .string ⟨tx.toArray⟩, .slice (some ⟨bR, 0, none⟩) M cap] 24) := by
        simp [World.setCell, Array.getElem?_modify, g3]
      refine bodyPost_ret (results_c1 rfl _ _ _ (H + 1) _ rfl (cellDef g4)) rfl ?_
      have hoth : ∀ g, g ≠ H + 1 → (((wr.setCell ⟨H + 1, 0, none⟩ (.string ⟨nm.toArray⟩)).setCell ⟨H + 1, 1, none⟩ (.string ⟨tx.toArray⟩)).setCell ⟨H + 1, 2, none⟩ (.slice (some ⟨bR, 0, none⟩) M cap)).heap[g]? = wr.heap[g]? := fun g hg => by
        rw [Below.heap_setCell _ _ _ _ hg, Below.heap_setCell _ _ _ _ hg, Below.heap_setCell _ _ _ _ hg]
      have hlow := hi.low
      have hlen : L.length = ss.length := hi.len
      have hnw : ∀ (j : Nat) (s : PSt), L[j]? = some s → (∀ g, s.blk g → H + 2 ≤ g ∧ g ≠ bR) ∧ ∃ s0, ss[j]? = some s0 ∧ s.bare = cutS s0.bare := fun j s hj => hi.new j s hj (by have := (List.getElem?_eq_some_iff.1 hj).1; rw [hlen, unhide HM] at this; omega)
      have hblk : ∀ g, stEl.blkL (some ⟨bR, 0, none⟩) L g → H + 2 ≤ g := fun g hg => by
        rcases hg with ⟨_, o, e⟩ | ⟨s, hs, hg⟩
        · cases e; exact hlow
        · obtain ⟨j, hj⟩ := List.getElem?_of_mem hs
          exact ((hnw j s hj).1 g hg).1
      refine ⟨⟨nm, tx, some ⟨bR, 0, none⟩, cap, L⟩, ?_, ⟨(hi.row.inL (fun s hs => by obtain ⟨j, hj⟩ := List.getElem?_of_mem hs; exact hi.inn j s hj)).keep (fun g hg => hoth g (by have := hblk g hg; omega)), ?_, hcp2⟩, fun g hg => by have := hblk g hg; omega, ?_, ?_⟩
      · unfold PDef.val
        simp only [hlen, unhide HM]
      · show L.length ≤ cap
        rw [hlen, unhide HM]; exact hcp1
      · unfold PDef.bare cutD
        simp only
        congr 1
        rw [List.map_map]
        apply List.ext_getElem?
        intro j
        rw [List.getElem?_map, List.getElem?_map]
        cases hj : L[j]? with
        | none =>
          have : ss[j]? = none := by
            rw [List.getElem?_eq_none_iff] at hj ⊢
            omega
          rw [this]; rfl
        | some s =>
          obtain ⟨_, s0, h0, hb⟩ := hnw j s hj
          rw [h0]
          simp only [Option.map_some, Function.comp, hb]
      · exact ((hi.bel.setCell (p := ⟨H + 1, 0, none⟩) (Nat.le_succ H) _).setCell (p := ⟨H + 1, 1, none⟩) (Nat.le_succ H) _).setCell (p := ⟨H + 1, 2, none⟩) (Nat.le_succ H) _
    | succ g' =>
      have hlt : (i : Int) < (M : Int) := by omega
      have hki : IntKind.i64.wrap ((i : Int) + 1) = (i : Int) + 1 := IntWalk.i64_in _ (by omega)
      have hi := unhide HI2
      have hlen : L.length = M := by rw [← unhide HM]; exact hi.len
      obtain ⟨s1, hg1⟩ := nth_of hlen (show i < M by omega)
      have hs0 : ss[i]? = some s1 := by rw [← hg1]; exact (hi.old i (Nat.le_refl _)).symm
      have hi1 := hi.inn i s1 hg1
      have haf1 := unhide HAF s1 (List.mem_of_getElem? hs0)
      have hnt1 := unhide HNT s1 (List.mem_of_getElem? hs0)
      have hlow := hi.low
      have hbRl := hi.row.lt
      have hcl1 := fun V (hV : Below wr.heap.size wr V) => clone_any s1.aa s1.ac s1.after V (hi1.below hV).keys haf1
      have hcn1 := fun V (hV : Below wr.heap.size wr V) => Copy20_any s1.note V (hi1.below hV).note hnt1
      obtain ⟨T, hT⟩ : ∃ T, s1.note.bare.cut 18 = T := ⟨_, rfl⟩
      rw [hT] at hcn1
      have hcells := hi.row.cells hg1
      have hfz := fun t => hi.row.frozen t
      obtain ⟨n1, a1, u1, aa1, ac1, af1, q1, fi1, fa1, li1, ⟨k1, t1, ka1, kc1, ks1, da1, dc1, ds1, l1⟩⟩ := s1
      obtain ⟨⟨c0, c1, c2, c3⟩, ⟨c4, c5, c6, c7⟩, ⟨c8, c9, c10, c11, c12⟩⟩ := hcells
      simp only [PSt.aV, Nd.kind, Nd.text, Nd.kV, Nd.dV, Nd.line, Nd.ka, Nd.kc, Nd.keys, Nd.da, Nd.dc, Nd.kids] at c0 c1 c2 c3 c4 c5 c6 c7 c8 c9 c10 c11 c12
      simp only [Nd.val_eq] at hcn1
      simp only at hcl1
      obtain ⟨N1, hN1⟩ : ∃ N1, af1.length = N1 := ⟨_, rfl⟩
      obtain ⟨N2, hN2⟩ : ∃ N2, ks1.length = N2 := ⟨_, rfl⟩
      obtain ⟨N3, hN3⟩ : ∃ N3, ds1.length = N3 := ⟨_, rfl⟩
      rw [hN1] at c3 hcl1
      rw [hN2] at c10 hcn1
      rw [hN3] at c11 hcn1
      obtain ⟨K, hK⟩ : ∃ K, wr.heap.size = K := ⟨_, rfl⟩
      obtain ⟨V1, hV1, hv1, r0, hsv⟩ := new1 wr (.cells #[.string ⟨n1.toArray⟩, .string ⟨a1.toArray⟩, .string ⟨u1.toArray⟩, .slice aa1 N1 ac1, .int .i64 q1, .int .i64 fi1, .int .i64 fa1, .int .i64 li1, .int .u8 k1, .string ⟨t1.toArray⟩, .slice ka1 N2 kc1, .slice da1 N3 dc1, .int .i64 l1] 63) K hK
      obtain ⟨⟨k0, _⟩, ⟨k1', _⟩, ⟨k2, _⟩⟩ := cell3 ((hv1.block H (by omega)).trans hi.df)
      simp only [unhide HM] at k0 k1' k2
      obtain ⟨⟨y0, _⟩, ⟨y1, _⟩, ⟨y2, _⟩, ⟨y3, _⟩, ⟨y4, _⟩, ⟨y5, _⟩, ⟨y6, _⟩, ⟨y7, _⟩, ⟨y8, _⟩, ⟨y9, _⟩, ⟨y10, _⟩, ⟨y11, _⟩, ⟨y12, _⟩⟩ := cell13 r0
      rw [hK] at hcl1 hcn1
      have hclV := hcl1 V1 hv1
      have HCL1 := hide hclV
      have HCN1 := hide hcn1
      have HV1 := hide hV1
      have HB1' := hide hv1
      have HR0 := hide r0
      have HG1' := hide hg1
      have HN1 := hide hN1
      have HT := hide hT
      clear hclV hcl1 hcn1 hV1 hv1 r0 hN1 hi hs0 hi1 haf1 hnt1 hN2 hN3 hg1 hT
      go_upto_region 5 with fail
      try rw [hK]
      rw [unhide HV1]
      go_upto_region 6 with (go_at_call 110; refine (unhide HCL1).mono ?_; rintro e w2 ⟨aa2, ac2, rfl, hstr, hb2⟩; have hrK := (hb2.block K (by omega)).trans (unhide HR0); obtain ⟨_, _, _, ⟨_, z3⟩, _⟩ := cell13 hrK; have HRK := hide hrK; clear hrK)
      have hbV := unhide HB1'
      have hbk2 : Below K wr w2 := hbV.trans (hb2.mono (by omega))
      obtain ⟨W3, hW3⟩ : ∃ W3, w2.setCell ⟨K, 3, none⟩ (.slice aa2 N1 ac2) = W3 := ⟨_, rfl⟩
      rw [hW3]
      have r3 : W3.heap[K]? = some (.cells #[.string ⟨n1.toArray⟩, .string ⟨a1.toArray⟩, .string ⟨u1.toArray⟩, .slice aa2 N1 ac2, .int .i64 q1, .int .i64 fi1, .int .i64 fa1, .int .i64 li1, .int .u8 k1, .string ⟨t1.toArray⟩, .slice ka1 N2 kc1, .slice da1 N3 dc1, .int .i64 l1] 63) := by
        have h := unhide HRK
        rw [← hW3]
        simp [World.setCell, Array.getElem?_modify, h]
      have hoth3 : ∀ g, g ≠ K → W3.heap[g]? = w2.heap[g]? := fun g hg => by rw [← hW3]; exact Below.heap_setCell _ _ _ _ hg
      have hb3 : Below K wr W3 := by rw [← hW3]; exact hbk2.setCell (p := ⟨K, 3, none⟩) (Nat.le_refl K) _
      have hz2 := hb2.size
      have hz3 : W3.heap.size = w2.heap.size := by rw [← hW3]; simp
      have hcn3 := unhide HCN1 W3 hb3
      have HSTR := hide hstr
      have HOTH3 := hide hoth3
      have HB3 := hide hb3
      have HCN3 := hide hcn3
      have HR3 := hide r3
      clear y0 y1 y2 y3 y4 y5 y6 y7 y8 y9 y10 y11 y12 k0 k1' k2 z3 hW3 hoth3 hcn3 hbV hbk2 HRK HR0 HCN1 HCL1
      obtain ⟨_, _, _, _, _, _, _, _, ⟨y8, _⟩, ⟨y9, _⟩, ⟨y10, _⟩, ⟨y11, _⟩, ⟨y12, _⟩⟩ := cell13 r3
      clear r3 hb3
      go_upto_region 7 with (go_at_call 111; refine (unhide HCN3).mono ?_; rintro e w4 ⟨k2, t2, ka2, kc2, ks2, da2, dc2, ds2, l2, rfl, hnd, hb4⟩; obtain ⟨N4, hN4⟩ : ∃ n, ks2.length = n := ⟨_, rfl⟩; obtain ⟨N5, hN5⟩ : ∃ n, ds2.length = n := ⟨_, rfl⟩; rw [hN4, hN5]; have HN4 := hide hN4; have HN5 := hide hN5; clear hN4 hN5; have hr4 := (hb4.block K (by omega)).trans (unhide HR3); obtain ⟨_, _, _, _, _, _, _, _, ⟨_, z8⟩, ⟨_, z9⟩, ⟨_, z10⟩, ⟨_, z11⟩, ⟨_, z12⟩⟩ := cell13 hr4; have HR4 := hide hr4; clear hr4)
      obtain ⟨W5, hW5⟩ : ∃ W5, (((((w4.setCell ⟨K, 8, none⟩ (.int .u8 k2)).setCell ⟨K, 9, none⟩ (.string ⟨t2.toArray⟩)).setCell ⟨K, 10, none⟩ (.slice ka2 N4 kc2)).setCell ⟨K, 11, none⟩ (.slice da2 N5 dc2)).setCell ⟨K, 12, none⟩ (.int .i64 l2)) = W5 := ⟨_, rfl⟩
      rw [hW5]
      have r5 : W5.heap[K]? = some (.cells #[.string ⟨n1.toArray⟩, .string ⟨a1.toArray⟩, .string ⟨u1.toArray⟩, .slice aa2 N1 ac2, .int .i64 q1, .int .i64 fi1, .int .i64 fa1, .int .i64 li1, .int .u8 k2, .string ⟨t2.toArray⟩, .slice ka2 N4 kc2, .slice da2 N5 dc2, .int .i64 l2] 63) := by
        have h := unhide HR4
        rw [← hW5]
        simp [World.setCell, Array.getElem?_modify, h]
      have hoth5 : ∀ g, g ≠ K → W5.heap[g]? = w4.heap[g]? := fun g hg => by rw [← hW5, Below.heap_setCell _ _ _ _ hg, Below.heap_setCell _ _ _ _ hg, Below.heap_setCell _ _ _ _ hg, Below.heap_setCell _ _ _ _ hg, Below.heap_setCell _ _ _ _ hg]
      have hz4 := hb4.size
      have hb5 : Below K wr W5 := by
        rw [← hW5]
        have hKK : K ≤ K := Nat.le_refl K
        exact (((((((unhide HB3).trans (hb4.mono (by omega)))).setCell (p := ⟨K, 8, none⟩) hKK _).setCell (p := ⟨K, 9, none⟩) hKK _).setCell (p := ⟨K, 10, none⟩) hKK _).setCell (p := ⟨K, 11, none⟩) hKK _).setCell (p := ⟨K, 12, none⟩) hKK _
      have hz5 : W5.heap.size = w4.heap.size := by rw [← hW5]; simp
      have hi := unhide HI2
      obtain ⟨⟨k0, _⟩, ⟨k1', _⟩, ⟨k2', _⟩⟩ := cell3 ((hb5.block H (by omega)).trans hi.df)
      simp only [unhide HM] at k0 k1' k2'
      have hfz5 : ∀ t, W5.frozen? ⟨bR, t, none⟩ = false := fun t => (hi.row.keep (hb5.block bR (by omega))).frozen t
      have fz0 := hfz5 (i * 13)
      have fz1 := (hfz5 (i * 13 + 1))
      have fz2 := (hfz5 (i * 13 + 2))
      have fz3 := (hfz5 (i * 13 + 3))
      have fz4 := (hfz5 (i * 13 + 4))
      have fz5 := (hfz5 (i * 13 + 5))
      have fz6 := (hfz5 (i * 13 + 6))
      have fz7 := (hfz5 (i * 13 + 7))
      have fz8 := (hfz5 (i * 13 + 8))
      have fz9 := (hfz5 (i * 13 + 9))
      have fz10 := (hfz5 (i * 13 + 10))
      have fz11 := (hfz5 (i * 13 + 11))
      have fz12 := (hfz5 (i * 13 + 12))
      obtain ⟨⟨x0, x1, x2, x3⟩, ⟨x4, x5, x6, x7⟩, ⟨x8, x9, x10, x11, x12⟩⟩ := (hi.row.keep (hb5.block bR (by omega))).cells (unhide HG1')
      simp only [PSt.aV, Nd.kind, Nd.text, Nd.kV, Nd.dV, Nd.line, Nd.ka, Nd.kc, Nd.keys, Nd.da, Nd.dc, Nd.kids] at x0 x1 x2 x3 x4 x5 x6 x7 x8 x9 x10 x11 x12
      have HB5 := hide hb5
      have HOTH5 := hide hoth5
      have HR5 := hide r5
      have HND := hide hnd
      have HB4 := hide hb4
      clear y8 y9 y10 y11 y12 z8 z9 z10 z11 z12 hW5 hoth5 hb5 hi hfz5 HR4 HR3 HCN3 hnd hb4
      obtain ⟨⟨y0, _⟩, ⟨y1, _⟩, ⟨y2, _⟩, ⟨y3, _⟩, ⟨y4, _⟩, ⟨y5, _⟩, ⟨y6, _⟩, ⟨y7, _⟩, ⟨y8, _⟩, ⟨y9, _⟩, ⟨y10, _⟩, ⟨y11, _⟩, ⟨y12, _⟩⟩ := cell13 r5
      clear r5
      go_upto_region 8 with fail
      obtain ⟨W6, hW6⟩ : ∃ W6, (((((((((((((W5.setCell ⟨bR, i * 13, none⟩ (.string ⟨n1.toArray⟩)).setCell ⟨bR, i * 13 + 1, none⟩ (.string ⟨a1.toArray⟩)).setCell ⟨bR, i * 13 + 2, none⟩ (.string ⟨u1.toArray⟩)).setCell ⟨bR, i * 13 + 3, none⟩ (.slice aa2 N1 ac2)).setCell ⟨bR, i * 13 + 4, none⟩ (.int .i64 q1)).setCell ⟨bR, i * 13 + 5, none⟩ (.int .i64 fi1)).setCell ⟨bR, i * 13 + 6, none⟩ (.int .i64 fa1)).setCell ⟨bR, i * 13 + 7, none⟩ (.int .i64 li1)).setCell ⟨bR, i * 13 + 8, none⟩ (.int .u8 k2)).setCell ⟨bR, i * 13 + 9, none⟩ (.string ⟨t2.toArray⟩)).setCell ⟨bR, i * 13 + 10, none⟩ (.slice ka2 N4 kc2)).setCell ⟨bR, i * 13 + 11, none⟩ (.slice da2 N5 dc2)).setCell ⟨bR, i * 13 + 12, none⟩ (.int .i64 l2)) = W6 := ⟨_, rfl⟩
      rw [hW6]
      obtain ⟨hbare2, hndin, hndb⟩ := unhide (unhide HND)
      obtain ⟨a3, c3', e3, hs1, hs2', hs3, hs4⟩ := (unhide (unhide HSTR)).slice
      have ea : a3 = aa2 := by injection e3 with e _ _; exact e.symm
      have ec : c3' = ac2 := by injection e3 with _ _ e; exact e.symm
      clear e3
      subst ea ec
      have hkeepK : ∀ g, g < w2.heap.size → g ≠ K → W5.heap[g]? = w2.heap[g]? := fun g h1 h2 => (unhide HOTH5 g h2).trans (((unhide HB4).block g (by omega)).trans (unhide HOTH3 g h2))
      have hsin : PSt.In W5 ⟨n1, a1, u1, a3, c3', af1, q1, fi1, fa1, li1, ⟨k2, t2, ka2, kc2, ks2, da2, dc2, ds2, l2⟩⟩ := ⟨hs3.keep (fun r hn hr => hkeepK r (PSt.inS_lt hs3 hn hr) (by have := hs4 r hn hr; omega)), hs1, hs2', hndin.keep (fun r hr => unhide HOTH5 r (by have := hndb r hr; omega))⟩
      have hnext := (unhide HI2).next (V' := W5) (s' := ⟨n1, a1, u1, a3, c3', af1, q1, fi1, fa1, li1, ⟨k2, t2, ka2, kc2, ks2, da2, dc2, ds2, l2⟩⟩) (unhide HDLT) (unhide HG1') (by rw [hK]; exact unhide HB5) hsin (fun g hg => by
        rw [hK]
        rcases hg with ⟨hn, hr⟩ | hr
        · have := hs4 g hn hr; omega
        · have := hndb g hr; omega) (by unfold PSt.bare cutS; simp only; rw [hbare2, ← unhide HT])
      have hcs : W5.setCells bR (i * 13) (PSt.cs ⟨n1, a1, u1, a3, c3', af1, q1, fi1, fa1, li1, ⟨k2, t2, ka2, kc2, ks2, da2, dc2, ds2, l2⟩⟩) = W6 := by
        rw [← hW6, ← unhide HN1, ← unhide HN4, ← unhide HN5]
        rfl
      rw [hcs] at hnext
      have HNEXT := hide hnext
      clear hnext hcs hW6 hsin hkeepK hs3 hs4 hndin hndb hbare2
      go_wp2
      go_roundg g'
      case measure => omega
      case rel => exact ⟨i + 1, _, by omega, by go_num, HNEXT⟩
end Go.Proofs.YtefokfbgpfcbkaaGreat
