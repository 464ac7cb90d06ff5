/- Lemmas of this claim: a tree that is handed in is one that lies in the world. -/
import Derived.Test.YtnjokdbblmlhhaaGreatDoorGN20Z
namespace Go.Proofs.YtnjokdbblmlhhaaGreatDoor
set_option linter.unusedVariables false
set_option linter.unusedSimpArgs false
open Go.RowKit Go.Deep Go.ChangeShapes
theorem plain_of_cell {W : World} {a : Addr} {v : Value} (h : W.cell? a = some v) : ∃ b o, a = ⟨b, o, none⟩ := by
  obtain ⟨ab, ao, asp⟩ := a
  cases asp with
  | none => exact ⟨ab, ao, rfl⟩
  | some q =>
    unfold World.cell? at h
    split at h
    · simp at h
    · cases h
theorem add_zero20 (a : Addr) : a.add 0 = a := by simp [Addr.add]
theorem add_plain20 (b o x : Nat) : Addr.add ⟨b, o, none⟩ x = ⟨b, o + x, none⟩ := by
  unfold Addr.add
  split <;> simp_all
theorem bytes_back (s : ByteArray) : (⟨s.data.toList.toArray⟩ : ByteArray) = s := by cases s; rfl
theorem size_list (s : ByteArray) : s.data.toList.length = s.size := (Lib.size_eq s).symm
/-- strings, opened -/
theorem openKeys {H : Type} {enc : TypeId × Value → H} {W : World} {fuel : Nat} {cs : List Value} {x : DataW H × List MemPlace} (h : DataW.trod enc Tryz.prog W 0 (fun _ => true) true fuel 23 cs = some x) :
    ∃ (a : Option Addr) (ks : List (List UInt8)) (c : Nat), cs = [.slice a ks.length c] ∧ ks.length ≤ c ∧ ks.length ≤ maxLen ∧ (∀ y ∈ ks, y.length ≤ maxLen) ∧ Eu W a ks := by
  rcases open_strs Tryz.underlying23 Tryz.underlying9 (by kernel_rfl) h with ⟨rfl, _⟩ | ⟨a, len, cap, m, Sx, rfl, _, hl, hc, hm, _, hx⟩
  · exact ⟨none, [], 0, rfl, Nat.le_refl _, Nat.zero_le _, fun y hy => by simp at hy, fun i y hy => by simp at hy⟩
  have hlm : len ≤ m := by rw [hm, if_pos rfl]; exact hl
  refine ⟨some a, (List.range len).map (fun i => (Sx i).data.toList), cap, by simp, by simpa using hl, by simp; omega, fun y hy => ?_, fun i y hy => ?_⟩
  · obtain ⟨i, hi, rfl⟩ := List.mem_map.1 hy
    have hi := List.mem_range.1 hi
    have := (hx i (by omega)).2
    rw [size_list]
    exact this
  · have hi : i < len := by have := (List.getElem?_eq_some_iff.1 hy).1; simpa using this
    rw [List.getElem?_map, List.getElem?_range hi] at hy
    simp only [Option.map_some, Option.some.injEq] at hy
    subst hy
    have h0 := (hx 0 (by omega)).1
    rw [add_zero20] at h0
    obtain ⟨b, o, rfl⟩ := plain_of_cell h0
    have h1 := (hx i (by omega)).1
    rw [add_plain20] at h1
    exact ⟨b, o, rfl, by rw [h1, bytes_back]⟩
theorem choose_nds {p : Nat → Nd → Prop} {n : Nat} (h : ∀ i, i < n → ∃ x, p i x) : ∃ f : Nat → Nd, ∀ i, i < n → p i (f i) := by
  refine ⟨fun i => if hi : i < n then Classical.choose (h i hi) else Nd.zero, fun i hi => ?_⟩
  simp only [hi, dif_pos]
  exact Classical.choose_spec (h i hi)
set_option maxRecDepth 100000 in
/-- a node, opened -/
theorem openNodeF {H : Type} {enc : TypeId × Value → H} {W : World} : ∀ (fuel : Nat) (cs : List Value) (x : DataW H × List MemPlace), DataW.trod enc Tryz.prog W 0 (fun _ => true) true fuel 26 cs = some x → ∃ nd : Nd, cs = nd.cs ∧ nd.In W := by
  intro fuel
  induction fuel using Nat.strongRecOn with
  | ind fuel ih =>
    intro cs x h
    obtain ⟨xs, n, hfu, _, hl, hlen, hf⟩ := DataW.trod_struct Tryz.underlying26 h
    have hc5 : Tryz.prog.cellsOf 26 = 5 := by kernel_rfl
    have hcu : Tryz.prog.cellsOf 5 = 1 := by kernel_rfl
    have hci : Tryz.prog.cellsOf 3 = 1 := by kernel_rfl
    have hcs : Tryz.prog.cellsOf 9 = 1 := by kernel_rfl
    have hck : Tryz.prog.cellsOf 23 = 1 := by kernel_rfl
    have hcd : Tryz.prog.cellsOf 24 = 1 := by kernel_rfl
    rw [hc5] at hl
    match cs, hl with
    | [c0, c1, c2, c3, c4], _ =>
      match xs, hlen with
      | [y0, y1, y2, y3, y4], _ =>
        have g0 := hf 0 _ rfl
        have g1 := hf 1 _ rfl
        have g2 := hf 2 _ rfl
        have g3 := hf 3 _ rfl
        have g4 := hf 4 _ rfl
        simp only [hcu, hci, hcs, hck, hcd, List.drop_zero, List.drop_succ_cons, List.take_succ_cons, List.take_zero, List.getElem?_cons_zero, List.getElem?_cons_succ] at g0 g1 g2 g3 g4
        obtain ⟨k0, e0, _, w0⟩ := DataW.trod_int Tryz.underlying5 g0
        obtain ⟨t, e1, _, w1⟩ := DataW.trod_string Tryz.underlying9 g1
        obtain ⟨ka, ks, kc, e2, q1, q2, q3, q4⟩ := openKeys g2
        obtain ⟨l, e4, _, w4⟩ := DataW.trod_int Tryz.underlying3 g4
        have hkids : ∃ (da : Option Addr) (ds : List Nd) (dc : Nat), [c3] = [Value.slice da ds.length dc] ∧ ds.length ≤ dc ∧ ds.length ≤ maxLen ∧ InL W da 0 ds := by
          rcases DataW.trod_slice Tryz.underlying24 g3 with ⟨e3, _⟩ | ⟨a, len, cap, elems, rest, m, hm, e3, _, _, hlc, hcm, hel, hall, _, _⟩
          · exact ⟨none, [], 0, e3, Nat.le_refl _, Nat.zero_le _, trivial⟩
          have each : ∀ i, i < len → ∃ d : Nd, W.cells? 0 (a.add (i * 5)) 5 = some d.cs ∧ d.In W := by
            intro i hi
            have h1 := hall i hi
            rw [hc5, List.getElem?_eq_getElem (by omega)] at h1
            obtain ⟨cs', h2, h3⟩ := Option.bind_eq_some_iff.1 h1
            obtain ⟨d, rfl, hd⟩ := ih m (by omega) cs' _ h3
            exact ⟨d, h2, hd⟩
          obtain ⟨f, hf2⟩ := choose_nds each
          refine ⟨some a, (List.range len).map f, cap, by simpa [hcd] using e3, by simpa using hlc, by simp; omega, Nh (fun j d hj => ?_)⟩
          have hi : j < len := by have := (List.getElem?_eq_some_iff.1 hj).1; simpa using this
          rw [List.getElem?_map, List.getElem?_range hi] at hj
          simp only [Option.map_some, Option.some.injEq] at hj
          subst hj
          obtain ⟨h0, hd⟩ := hf2 j hi
          obtain ⟨hz, _⟩ := hf2 0 (by omega)
          obtain ⟨_, _, z0⟩ := World.cells?_some hz
          have z1 := z0 0 (by simp [Nd.cs])
          rw [Nat.zero_mul, add_zero20, add_zero20] at z1
          rw [List.getElem?_eq_getElem (by simp [Nd.cs])] at z1
          obtain ⟨b, o, rfl⟩ := plain_of_cell z1
          obtain ⟨_, _, hcell⟩ := World.cells?_some h0
          have d0 := hcell 0 (by omega)
          have d1 := hcell 1 (by omega)
          have d2 := hcell 2 (by omega)
          have d3 := hcell 3 (by omega)
          have d4 := hcell 4 (by omega)
          rw [add_plain20, add_plain20] at d0 d1 d2 d3 d4
          simp only [Nd.cs, List.getElem?_cons_zero, List.getElem?_cons_succ] at d0 d1 d2 d3 d4
          refine ⟨⟨b, o, rfl, ?_⟩, hd⟩
          rw [Nat.zero_add]
          exact ⟨d0, d1, d2, d3, d4⟩
        obtain ⟨da, ds, dc, e3, r1, r2, r3⟩ := hkids
        injection e0 with e0
        injection e1 with e1
        injection e2 with e2
        injection e3 with e3
        injection e4 with e4
        subst e0
        subst e1
        subst e2
        subst e3
        subst e4
        simp only [Lit.wf, Bool.and_eq_true, decide_eq_true_eq] at w0
        have w00 : (0 : Int) ≤ k0 := w0.1
        have w01 : k0 ≤ 255 := w0.2
        obtain ⟨k, rfl⟩ : ∃ k : Nat, k0 = k := ⟨k0.toNat, by omega⟩
        refine ⟨.mk k t.data.toList ka kc ks da dc ds l, by simp [Nd.cs, Nd.kind, Nd.text, Nd.kV, Nd.dV, Nd.ka, Nd.kc, Nd.keys, Nd.da, Nd.dc, Nd.kids, Nd.line, bytes_back], .mk ⟨by show k < 256; omega, by show t.data.toList.length ≤ maxLen; rw [size_list]; exact w1, q2, r2, q1, r1, q3, q4⟩ r3⟩
set_option maxRecDepth 100000 in
theorem openNode {H : Type} {enc : TypeId × Value → H} {W : World} {r : Reach} {b0 : Nat} {v : Value} {d : DataW H} {ps : List MemPlace} (hval : Value.okWide Tryz.prog W r b0 26 v)
    (hd : DataW.Trod enc Tryz.prog W 0 (fun _ => true) true 26 v d ps) : ∃ nd : Nd, v = nd.val ∧ nd.In W := by
  obtain ⟨fuel, hf⟩ := hd
  obtain ⟨cs, rfl, hsz⟩ := Go.WideShapes.okWide_struct Tryz.underlying26 hval
  obtain ⟨nd, hc, hin⟩ := openNodeF fuel _ _ hf
  refine ⟨nd, ?_, hin⟩
  have hc' : cs.toList = nd.cs := by simpa [Value.cells] using hc
  show Value.agg cs = Value.agg _
  congr 1
  rw [← Array.toArray_toList (xs := cs), hc']
  rfl
end Go.Proofs.YtnjokdbblmlhhaaGreatDoor
