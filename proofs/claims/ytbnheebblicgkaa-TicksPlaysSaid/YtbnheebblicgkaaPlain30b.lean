/- Plain: who was set is told once, in order (TicksOnce). -/
import Derived.Test.YtbnheebblicgkaaW30f
namespace Go.Proofs.Ytbnheebblicgkaa
set_option linter.unusedVariables false
set_option linter.unusedSimpArgs false
namespace P30
/-- told already: nobody waits any more, or it stands among those told -/
def tl (L : List En) (K : List Int) (i : Nat) : Bool := (look L (i : Int)).isNone || K.contains (i : Int)
/-- the row says what was asked -/
def Of (A : List Int) (L : List En) : Prop := ∀ p ∈ L, ∃ i : Nat, p.1 = (i : Int) ∧ A[i]? = some p.2
theorem of_nil (A : List Int) : Of A [] := fun p hp => by simp at hp
theorem set_ins {L : List En} {k a : Int} (hf : full L k = false) : set L k a = ins (k, a) (unset L k) := by unfold set; rw [hf]; rfl
theorem of_set {A : List Int} {L : List En} (h : Of A L) {i : Nat} {a : Int} (hA : A[i]? = some a) (hf : full L (i : Int) = false) : Of A (set L (i : Int) a) := by
  intro p hp
  rw [set_ins hf] at hp
  rcases (mem_ins _ _ p).1 hp with rfl | hp
  · exact ⟨i, rfl, hA⟩
  · exact h p (List.mem_filter.1 hp).1
theorem set_le {L : List En} {k a : Int} (hok : Ok L) (hf : full L k = false) : (set L k a).length ≤ L.length + 1 := by
  rw [set_ins hf, ins_len]
  have := unset_len hok.nodup k
  omega
theorem look_set {L : List En} {k a : Int} (hf : full L k = false) (j : Int) : look (set L k a) j = if j = k then some a else look L j := by
  rw [set_ins hf, look_ins (unset_key L k) j]
  by_cases h : j = k
  · rw [if_pos h, if_pos h]
  · rw [if_neg h, if_neg h, look_unset, if_neg h]
theorem of_rest {A : List Int} {L : List En} (h : Of A L) (now : Int) : Of A (rest L now) := fun p hp => h p ((List.dropWhile_sublist _).subset hp)
theorem rest_le (L : List En) (now : Int) : (rest L now).length ≤ L.length := (List.dropWhile_sublist _).length_le
theorem due_le {L : List En} (hok : Ok L) {now : Int} {p : En} (h : p ∈ due L now) : p.2 ≤ now := by
  rw [takeWhile_filter hok.sort] at h
  simpa using (List.mem_filter.1 h).2
theorem due_keys {A : List Int} {L : List En} (hok : Ok L) (hof : Of A L) (now : Int) {k : Nat} (hk : k < ((due L now).map (·.1)).length) :
    ∃ (j : Nat) (a : Int), ((due L now).map (·.1))[k]? = some (j : Int) ∧ A[j]? = some a ∧ a ≤ now ∧ j < A.length ∧ tl L (((due L now).map (·.1)).take k) j = false := by
  have hk2 : k < (due L now).length := by simpa using hk
  have hm : (due L now)[k] ∈ due L now := List.getElem_mem hk2
  have hl := (List.takeWhile_sublist _).subset hm
  obtain ⟨j, e1, e2⟩ := hof _ hl
  have e3 : ((due L now).map (·.1))[k]? = some (j : Int) := by rw [List.getElem?_map, List.getElem?_eq_getElem hk2]; exact congrArg some e1
  refine ⟨j, _, e3, e2, ?_, (List.getElem?_eq_some_iff.1 e2).1, ?_⟩
  · exact due_le hok hm
  · unfold tl
    have h1 : look L (j : Int) = some (due L now)[k].2 := (look_mem hok.nodup).2 (by rw [← e1]; exact hl)
    rw [h1]
    have hnd : ((due L now).map (·.1)).Nodup := List.Pairwise.sublist (List.Sublist.map _ (List.takeWhile_sublist _)) hok.nodup
    have h2 : (j : Int) ∉ ((due L now).map (·.1)).take k := by
      intro hmem
      obtain ⟨m, hm1, hm2⟩ := List.mem_iff_getElem.1 hmem
      rw [List.length_take] at hm1
      rw [List.getElem_take] at hm2
      have h3 := (List.getElem?_eq_some_iff.1 e3).2
      have := (List.getElem_inj hnd).1 (hm2.trans h3.symm)
      omega
    have h3 : (((due L now).map (·.1)).take k).contains (j : Int) = false := by
      rw [Bool.eq_false_iff]
      intro h; exact h2 (by simpa using h)
    rw [h3]; rfl
theorem due_order {A : List Int} {L : List En} (hok : Ok L) (hof : Of A L) (now : Int) {k i j : Nat} {a b : Int} (h1 : ((due L now).map (·.1))[k]? = some (i : Int)) (h2 : ((due L now).map (·.1))[k + 1]? = some (j : Int)) (ha : A[i]? = some a) (hb : A[j]? = some b) : a < b ∨ (a = b ∧ (i : Int) < (j : Int)) := by
  have hd : (due L now).Pairwise less := List.Pairwise.sublist (List.takeWhile_sublist _) hok.sort
  rw [List.getElem?_map, Option.map_eq_some_iff] at h1 h2
  obtain ⟨p, hp, ep⟩ := h1
  obtain ⟨q, hq, eq⟩ := h2
  obtain ⟨l1, g1⟩ := List.getElem?_eq_some_iff.1 hp
  obtain ⟨l2, g2⟩ := List.getElem?_eq_some_iff.1 hq
  have h := (List.pairwise_iff_getElem.1 hd) k (k + 1) l1 l2 (by omega)
  rw [g1, g2] at h
  have hpL : p ∈ L := (List.takeWhile_sublist _).subset (List.mem_of_getElem? hp)
  have hqL : q ∈ L := (List.takeWhile_sublist _).subset (List.mem_of_getElem? hq)
  obtain ⟨i', ei, ai⟩ := hof p hpL
  obtain ⟨j', ej, aj⟩ := hof q hqL
  have : i' = i := by omega
  subst this
  have : j' = j := by omega
  subst this
  rw [ha] at ai; rw [hb] at aj
  injection ai with ai; injection aj with aj
  unfold less at h
  omega
theorem tl_succ {L : List En} {K : List Int} {k j : Nat} (h : K[k]? = some (j : Int)) (i : Nat) : tl L (K.take (k + 1)) i = if i = j then true else tl L (K.take k) i := by
  unfold tl
  rw [List.take_add_one, h]
  simp only [Option.toList_some, List.contains_eq_mem, List.mem_append, List.mem_singleton]
  by_cases hij : i = j
  · subst hij; simp
  · rw [if_neg hij]
    have : ¬ ((i : Int) = (j : Int)) := by omega
    simp [this]
theorem tl_end {L : List En} (hok : Ok L) (now : Int) (i : Nat) : tl L ((due L now).map (·.1)) i = tl (rest L now) [] i := by
  have hr := rest_ok hok now
  have e1 : tl (rest L now) [] i = (look (rest L now) (i : Int)).isNone := by unfold tl; simp
  rw [e1]
  unfold tl
  cases hl : look L (i : Int) with
  | none =>
    have : look (rest L now) (i : Int) = none := look_none.2 (fun hm => by
      obtain ⟨p, hp, he⟩ := List.mem_map.1 hm
      exact look_none.1 hl (List.mem_map.2 ⟨p, (List.dropWhile_sublist _).subset hp, he⟩))
    rw [this]; rfl
  | some a =>
    have hm := (look_mem hok.nodup).1 hl
    by_cases ha : a ≤ now
    · have h1 : ((i : Int), a) ∈ due L now := by rw [takeWhile_filter hok.sort]; exact List.mem_filter.2 ⟨hm, by simpa using ha⟩
      have h2 : look (rest L now) (i : Int) = none := look_none.2 (fun hm2 => by
        obtain ⟨p, hp, he⟩ := List.mem_map.1 hm2
        have h3 := (List.dropWhile_sublist _).subset hp
        rw [dropWhile_filter hok.sort] at hp
        have h4 := (List.mem_filter.1 hp).2
        have h5 := (look_mem hok.nodup).2 h3
        rw [he, hl] at h5
        injection h5 with h5
        simp at h4
        omega)
      have h3 : ((due L now).map (·.1)).contains (i : Int) = true := by
        simp only [List.contains_eq_mem, decide_eq_true_eq]
        exact List.mem_map.2 ⟨_, h1, rfl⟩
      rw [h2, h3]; rfl
    · have h1 : ((i : Int), a) ∈ rest L now := by rw [dropWhile_filter hok.sort]; exact List.mem_filter.2 ⟨hm, by simp; omega⟩
      have h2 : look (rest L now) (i : Int) = some a := (look_mem hr.nodup).2 h1
      have h3 : ((due L now).map (·.1)).contains (i : Int) = false := by
        rw [Bool.eq_false_iff]
        intro hc
        simp only [List.contains_eq_mem, decide_eq_true_eq] at hc
        obtain ⟨p, hp, he⟩ := List.mem_map.1 hc
        have h4 := (List.takeWhile_sublist _).subset hp
        rw [takeWhile_filter hok.sort] at hp
        have h5 := (List.mem_filter.1 hp).2
        have h6 := (look_mem hok.nodup).2 h4
        rw [he, hl] at h6
        injection h6 with h6
        simp at h5
        omega
      rw [h2, h3]; rfl
theorem tl_check {A : List Int} {L : List En} (hok : Ok L) (hof : Of A L) {now a : Int} {i : Nat} (hA : A[i]? = some a) (ha : a ≤ now) : tl (rest L now) [] i = true := by
  have e1 : tl (rest L now) [] i = (look (rest L now) (i : Int)).isNone := by unfold tl; simp
  rw [e1]
  have : look (rest L now) (i : Int) = none := look_none.2 (fun hm2 => by
    obtain ⟨p, hp, he⟩ := List.mem_map.1 hm2
    obtain ⟨j, ej, aj⟩ := of_rest hof now p hp
    rw [dropWhile_filter hok.sort] at hp
    have h4 := (List.mem_filter.1 hp).2
    have : i = j := by omega
    subst this
    rw [hA] at aj
    injection aj with aj
    simp at h4
    omega)
  rw [this]; rfl
end P30
end Go.Proofs.Ytbnheebblicgkaa
