/- walks of layer 17: the iterator of strings.Lines. -/
import Derived.Test.YtbnheebblicgkaaDoorLib
import Derived.Test.YtbnheebblicgkaaDoorRange
import Derived.Test.YtbnheebblicgkaaDoorPlain17
import Derived.Test.YtbnheebblicgkaaDoorShelf
namespace Go.Proofs.YtbnheebblicgkaaDoor
set_option linter.unusedVariables false
set_option linter.unusedSimpArgs false
open Go.RowKit Go.Shelf
attribute [local go_sem] Oper.semAt_some
def cellLen (b : Nat) (w : World) : Nat := match w.cell? ⟨b, 0, none⟩ with
  | some (.string x) => x.size
  | _ => 0
theorem cellLen_of {b : Nat} {w : World} {x : ByteArray} (h : w.cell? ⟨b, 0, none⟩ = some (.string x)) : cellLen b w = x.size := by unfold cellLen; rw [h]
def bsOf (l : List UInt8) : Value := .string ⟨l.toArray⟩
theorem bsOf_take (x : ByteArray) (q : Nat) : bsOf (x.data.toList.take q) = .string (x.extract 0 q) := by
  unfold bsOf; rw [Lib.extract_eq, List.drop_zero, Nat.sub_zero]
theorem bsOf_all (x : ByteArray) : bsOf x.data.toList = .string x := rfl
theorem index_some {l : List UInt8} {q : Nat} (h : feedAt l = some q) : Lib.indexByte l 10 = (q : Int) ∧ q < l.length := by
  induction l generalizing q with
  | nil => simp [feedAt] at h
  | cons c r ih =>
    unfold feedAt at h
    rw [List.findIdx?_cons] at h
    by_cases hc : c = 10
    · subst hc
      simp at h
      subst h
      exact ⟨rfl, by simp⟩
    · simp [hc] at h
      obtain ⟨j, hj, rfl⟩ := h
      obtain ⟨h1, h2⟩ := ih hj
      refine ⟨?_, Nat.succ_lt_succ h2⟩
      unfold Lib.indexByte
      rw [if_neg (by simpa using hc), h1, if_neg (by simp)]
      omega
theorem index_none {l : List UInt8} (h : feedAt l = none) : Lib.indexByte l 10 = -1 := by
  induction l with
  | nil => rfl
  | cons c r ih =>
    unfold feedAt at h
    rw [List.findIdx?_cons] at h
    by_cases hc : c = 10
    · simp [hc] at h
    · simp [hc] at h
      have h2 : feedAt r = none := by unfold feedAt; simp; exact h
      unfold Lib.indexByte
      rw [if_neg (by simpa using hc), ih h2]
      rfl
theorem setCell_drew_grown (w : World) (b : Nat) (v : Value) : w.grownBy (w.setCell ⟨b, 0, none⟩ v).drew (some b) :=
  ⟨(grownBy_setCell' w b v).os, (grownBy_setCell' w b v).tape, (grownBy_setCell' w b v).output, (grownBy_setCell' w b v).size, (grownBy_setCell' w b v).block⟩
theorem cell_lt {w : World} {b : Nat} {v : Value} (h : w.cell? ⟨b, 0, none⟩ = some v) : b < w.heap.size := by
  obtain ⟨o, ho, _⟩ := cells_of_cell h
  exact (Array.getElem?_eq_some_iff.1 ho).1
set_option maxRecDepth 100000 in
set_option maxHeartbeats 2000000 in
theorem LinesIter_seq (n : Nat) (s : ByteArray) (b : Nat) (T : Nat → Prop) (W : World) (hc : W.cell? ⟨b, 0, none⟩ = some (.string s)) (hf : W.frozen? ⟨b, 0, none⟩ = false) (hT : T b) (hs : s.size ≤ 1099511627776)
    (hn : 8 ≤ n) : SeqT Fence.wide n Tryd.prog 78 #[.pointer (some ⟨b, 0, none⟩)] (fun l => #[bsOf l]) (rawL s.data.toList) T 0 W := by
  intro l J Jx hJ hJx hY h0
  have h1 : 1 ≤ n := by omega
  refine callsIn_of_wp Tryd.func78 rfl trivial ?_ rfl
  simp only [Tryd.ntmps78, List.size_toArray, List.length_cons, List.length_nil, Nat.reduceAdd, Nat.reduceSub, Array.replicate_succ, Array.replicate_zero, List.push_toArray, List.append_toArray, List.nil_append, List.cons_append]
  gi_wp2
  gi_loopw [] (fun wr => ∃ (i : Nat) (x : ByteArray), wr.cell? ⟨b, 0, none⟩ = some (.string x) ∧ wr.frozen? ⟨b, 0, none⟩ = false ∧ x.size ≤ s.size ∧ W.heap.size ≤ wr.heap.size ∧ i ≤ (rawL s.data.toList).length ∧ Hid ((rawL s.data.toList).drop i = rawL x.data.toList) ∧ Hid (J i wr))
    (fun wr => cellLen b wr)
  case atStart => exact ⟨0, s, hc, hf, Nat.le_refl _, Nat.le_refl _, Nat.zero_le _, hide rfl, hide h0⟩
  case round =>
    obtain ⟨i, x, hc, hf, hx, hsz, hil, HR, hJi⟩ := hrel
    by_cases hx0 : x.size = 0
    · have e1 : x.data.toList = [] := List.eq_nil_of_length_eq_zero (by rw [← Lib.size_eq]; exact hx0)
      gi_wp2
      go_end0
      refine ⟨⟨_, rfl⟩, .inl ?_⟩
      have e2 := unhide HR
      rw [e1, show rawL [] = [] from rfl, List.drop_eq_nil_iff] at e2
      rw [show (rawL s.data.toList).length = i from by omega]
      exact unhide hJi
    · have hx1 : (0 : Int) < (x.size : Int) := by omega
      have hcl := cellLen_of hc
      have hbl := cell_lt hc
      cases hq : feedAt x.data.toList with
      | some q =>
        obtain ⟨hix, hql⟩ := index_some hq
        rw [← Lib.size_eq] at hql
        have hqi : ((q : Int) + 1) ≤ (x.size : Int) := by omega
        have hw1 : IntKind.i64.wrap ((q : Int) + 1) = (q : Int) + 1 := IntWalk.i64_in _ (by omega)
        have h0q : (0 : Int) ≤ (q : Int) + 1 := by omega
        have hqq : (0 : Int) ≤ (q : Int) := by omega
        have htn : ((q : Int) + 1).toNat = q + 1 := by omega
        have hraw := rawL_some _ _ hq
        have hLi : (rawL s.data.toList)[i]? = some (x.data.toList.take (q + 1)) := by
          have := congrArg (fun z => z[0]?) ((unhide HR).trans hraw)
          simpa using this
        have hil2 : i < (rawL s.data.toList).length := (List.getElem?_eq_some_iff.1 hLi).1
        obtain ⟨fn, tmps, assign, body, hy, hR⟩ := hY i _ _ hLi (hJ i wr _ (some b) (unhide hJi) (setCell_drew_grown wr b (.string (x.extract (q + 1) x.size))) (fun r e => by cases e; exact hT)) (by have := (setCell_drew_grown wr b (.string (x.extract (q + 1) x.size))).size; omega)
        rw [bsOf_take] at hy
        have HI := hide hix
        have HW := hide hraw
        clear hix hraw hLi
        gi_wp2_with (refine ⟨trivial, ?_⟩; gi_at_call 79; refine (callsIn_wide.2 (Tryd.strings_IndexByte x 10 _)).mono ?_; rintro e w' ⟨rfl, rfl⟩; rw [show Int.toNat 10 = 10 from rfl, show (Nat.toUInt8 10) = 10 from rfl, unhide HI])
        gi_region
        gi_wp2
        refine hR.mono ?_
        rintro e W3 (⟨rfl, hJ3, hk3⟩ | ⟨rfl, hJx3, _⟩)
        · have hb3 : W3.heap[b]? = (w'.setCell ⟨b, 0, none⟩ (.string (x.extract (q + 1) x.size))).heap[b]? := hk3.same b hT (by have := (grownBy_setCell' w' b (.string (x.extract (q + 1) x.size))).size; exact Nat.lt_of_lt_of_le hbl this)
          have hc3 : W3.cell? ⟨b, 0, none⟩ = some (.string (x.extract (q + 1) x.size)) := (World.cell?_of_block (a := ⟨b, 0, none⟩) hb3).trans (World.cell?_setCell_same' _ _ _ (by rw [hc]; rfl))
          have hf3 : W3.frozen? ⟨b, 0, none⟩ = false := (World.frozen?_of_block (a := ⟨b, 0, none⟩) hb3).trans (by rw [World.frozen?_setCell]; exact hf)
          have hs3 : W.heap.size ≤ W3.heap.size := Nat.le_trans hsz (Nat.le_trans (setCell_drew_grown w' b (.string (x.extract (q + 1) x.size))).size hk3.size)
          have hz3 : (x.extract (q + 1) x.size).size = x.size - (q + 1) := by simp [ByteArray.size_extract]
          have hcl3 := cellLen_of hc3
          gi_wp2
          go_roundw
          case rel =>
            refine ⟨i + 1, _, hc3, hf3, by omega, hs3, hil2, hide ?_, hide hJ3⟩
            have := congrArg (List.drop 1) ((unhide HR).trans (unhide HW))
            rw [List.drop_drop, List.drop_one, List.tail_cons] at this
            rw [this, Lib.extract_data, List.take_of_length_le (by rw [List.length_drop, ← Lib.size_eq]; omega)]
          case measure => rw [hcl3, hcl]; omega
        · gi_wp2
          refine bodyPost_ret (results_none rfl _ _ _) rfl ?_
          exact ⟨⟨_, rfl⟩, .inr ⟨i + 1, hil2, hJx3⟩⟩
      | none =>
        have hix := index_none hq
        have hraw := rawL_none _ (fun e => hx0 (by rw [Lib.size_eq, e]; rfl)) hq
        have hLi : (rawL s.data.toList)[i]? = some x.data.toList := by
          have := congrArg (fun z => z[0]?) ((unhide HR).trans hraw)
          simpa using this
        have hil2 : i < (rawL s.data.toList).length := (List.getElem?_eq_some_iff.1 hLi).1
        obtain ⟨fn, tmps, assign, body, hy, hR⟩ := hY i _ _ hLi (hJ i wr _ (some b) (unhide hJi) (grownBy_setCell' wr b (.string ⟨#[]⟩)) (fun r e => by cases e; exact hT)) (by have := (grownBy_setCell' wr b (.string ⟨#[]⟩)).size; omega)
        rw [bsOf_all] at hy
        have HI := hide hix
        have HW := hide hraw
        clear hix hraw hLi
        gi_wp2_with (refine ⟨trivial, ?_⟩; gi_at_call 79; refine (callsIn_wide.2 (Tryd.strings_IndexByte x 10 _)).mono ?_; rintro e w' ⟨rfl, rfl⟩; rw [show Int.toNat 10 = 10 from rfl, show (Nat.toUInt8 10) = 10 from rfl, unhide HI])
        refine hR.mono ?_
        rintro e W3 (⟨rfl, hJ3, hk3⟩ | ⟨rfl, hJx3, _⟩)
        · have hb3 : W3.heap[b]? = (w'.setCell ⟨b, 0, none⟩ (.string ⟨#[]⟩)).heap[b]? := hk3.same b hT (by have := (grownBy_setCell' w' b (.string ⟨#[]⟩)).size; exact Nat.lt_of_lt_of_le hbl this)
          have hc3 : W3.cell? ⟨b, 0, none⟩ = some (.string ⟨#[]⟩) := (World.cell?_of_block (a := ⟨b, 0, none⟩) hb3).trans (World.cell?_setCell_same' _ _ _ (by rw [hc]; rfl))
          have hf3 : W3.frozen? ⟨b, 0, none⟩ = false := (World.frozen?_of_block (a := ⟨b, 0, none⟩) hb3).trans (by rw [World.frozen?_setCell]; exact hf)
          have hs3 : W.heap.size ≤ W3.heap.size := Nat.le_trans hsz (Nat.le_trans (grownBy_setCell' w' b (.string ⟨#[]⟩)).size hk3.size)
          have hcl3 := cellLen_of hc3
          have hz3 : (⟨#[]⟩ : ByteArray).size = 0 := rfl
          gi_wp2
          go_roundw
          case rel =>
            refine ⟨i + 1, _, hc3, hf3, by omega, hs3, hil2, hide ?_, hide hJ3⟩
            have := congrArg (List.drop 1) ((unhide HR).trans (unhide HW))
            rw [List.drop_drop] at this
            exact this
          case measure => rw [hcl3, hcl]; omega
        · gi_wp2
          refine bodyPost_ret (results_none rfl _ _ _) rfl ?_
          exact ⟨⟨_, rfl⟩, .inr ⟨i + 1, hil2, hJx3⟩⟩
end Go.Proofs.YtbnheebblicgkaaDoor
