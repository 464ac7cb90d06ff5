/- Lemmas of this claim (a part of its texts, kept as far as the claim reaches them). -/
import Derived.Test.YtefokfbgpfcbkaaGreatStZ
namespace Go.Proofs.YtefokfbgpfcbkaaGreat
set_option linter.unusedVariables false
set_option linter.unusedSimpArgs false
open Go.RowKit Go.Deep Go.ChangeShapes
theorem openKeysC {H : Type} {enc : TypeId × Value → H} {W : World} {fuel : Nat} {cs : List Value} {x : DataW H × List MemPlace} (h : DataW.trod enc Tryz.prog W 0 (fun _ => true) true fuel 56 cs = some x) :
    ∃ (a : Option Addr) (ks : List (List UInt8)) (c : Nat), cs = [.slice a ks.length c] ∧ ks.length ≤ c ∧ c ≤ maxLen ∧ (∀ y ∈ ks, y.length ≤ maxLen) ∧ InS W a ks := by
  rcases open_strs Tryz.underlying56 Tryz.underlying9 (by kernel_rfl) h with ⟨rfl, _⟩ | ⟨a, len, cap, m, Sx, rfl, _, hl, hc, hm, _, hx⟩
  · exact ⟨none, [], 0, rfl, Nat.le_refl _, Nat.zero_le _, fun y hy => by simp at hy, fun i y hy => by simp at hy⟩
  have hlm : len ≤ m := by rw [hm, if_pos rfl]; exact hl
  refine ⟨some a, (List.range len).map (fun i => (Sx i).data.toList), cap, by simp, by simpa using hl, hc, fun y hy => ?_, fun i y hy => ?_⟩
  · obtain ⟨i, hi, rfl⟩ := List.mem_map.1 hy
    have hi := List.mem_range.1 hi
    have := (hx i (by omega)).2
    rw [size_list]
    exact this
  · have hi : i < len := by have := (List.getElem?_eq_some_iff.1 hy).1; simpa using this
    rw [List.getElem?_map, List.getElem?_range hi] at hy
    simp only [Option.map_some, Option.some.injEq] at hy
    subst hy
    have h0 := (hx 0 (by omega)).1
    rw [add_zero20] at h0
    obtain ⟨b, o, rfl⟩ := plain_of_cell h0
    have h1 := (hx i (by omega)).1
    rw [add_plain20] at h1
    exact ⟨b, o, rfl, by rw [h1, bytes_back]⟩
def PSt.fit (s : PSt) : Prop := s.name.length ≤ maxLen ∧ s.action.length ≤ maxLen ∧ s.undo.length ≤ maxLen ∧ ∀ y ∈ s.after, y.length ≤ maxLen
set_option maxRecDepth 100000 in
theorem openStepF {H : Type} {enc : TypeId × Value → H} {W : World} {fuel : Nat} {cs : List Value} {x : DataW H × List MemPlace} (h : DataW.trod enc Tryz.prog W 0 (fun _ => true) true fuel 63 cs = some x) : ∃ s : PSt, cs = s.cs ∧ s.In W ∧ s.fit := by
  obtain ⟨xs, n, hfu, _, hl, hlen, hf⟩ := DataW.trod_struct Tryz.underlying63 h
  have hc13 : Tryz.prog.cellsOf 63 = 13 := by kernel_rfl
  have hc3 : Tryz.prog.cellsOf 58 = 3 := by kernel_rfl
  have hc5 : Tryz.prog.cellsOf 61 = 5 := by kernel_rfl
  have hci : Tryz.prog.cellsOf 3 = 1 := by kernel_rfl
  have hcs : Tryz.prog.cellsOf 9 = 1 := by kernel_rfl
  have hck : Tryz.prog.cellsOf 56 = 1 := by kernel_rfl
  rw [hc13] at hl
  match cs, hl with
  | [c0, c1, c2, c3, c4, c5, c6, c7, c8, c9, c10, c11, c12], _ =>
    match xs, hlen with
    | [y0, y1, y2, y3, y4, y5, y6], _ =>
      have g0 := hf 0 _ rfl
      have g1 := hf 1 _ rfl
      have g2 := hf 2 _ rfl
      have g3 := hf 3 _ rfl
      have g4 := hf 4 _ rfl
      have g5 := hf 5 _ rfl
      have g6 := hf 6 _ rfl
      simp only [hc3, hc5, hci, hcs, hck, List.drop_zero, List.drop_succ_cons, List.take_succ_cons, List.take_zero, List.getElem?_cons_zero, List.getElem?_cons_succ] at g0 g1 g2 g3 g4 g5 g6
      obtain ⟨t0, e0, _, w0⟩ := DataW.trod_string Tryz.underlying9 g0
      obtain ⟨t1, e1, _, w1⟩ := DataW.trod_string Tryz.underlying9 g1
      obtain ⟨t2, e2, _, w2⟩ := DataW.trod_string Tryz.underlying9 g2
      obtain ⟨aa, af, ac, e3, q1, q2, q3, q4⟩ := openKeysC g3
      obtain ⟨zs, n2, _, _, hl2, hlen2, hf2⟩ := DataW.trod_struct Tryz.underlying58 g4
      match zs, hlen2 with
      | [z0, z1, z2], _ =>
        have r0 := hf2 0 _ rfl
        have r1 := hf2 1 _ rfl
        have r2 := hf2 2 _ rfl
        simp only [hci, List.drop_zero, List.drop_succ_cons, List.take_succ_cons, List.take_zero, List.getElem?_cons_zero, List.getElem?_cons_succ] at r0 r1 r2
        obtain ⟨m0, f0, _, _⟩ := DataW.trod_int Tryz.underlying3 r0
        obtain ⟨m1, f1, _, _⟩ := DataW.trod_int Tryz.underlying3 r1
        obtain ⟨m2, f2, _, _⟩ := DataW.trod_int Tryz.underlying3 r2
        obtain ⟨li, e5, _, _⟩ := DataW.trod_int Tryz.underlying3 g5
        obtain ⟨nd, e6, hnd⟩ := openNodeF _ _ _ g6
        injection e0 with e0
        injection e1 with e1
        injection e2 with e2
        injection e3 with e3
        injection f0 with f0
        injection f1 with f1
        injection f2 with f2
        injection e5 with e5
        simp only [Nd.cs, List.cons.injEq, and_true] at e6
        obtain ⟨rfl, rfl, rfl, rfl, rfl⟩ := e6
        subst e0 e1 e2 e3 f0 f1 f2 e5
        refine ⟨⟨t0.data.toList, t1.data.toList, t2.data.toList, aa, ac, af, m0, m1, m2, li, nd⟩, by simp [PSt.cs, PSt.aV, bytes_back], ⟨q4, q1, q2, hnd⟩, by rw [size_list]; exact w0, by rw [size_list]; exact w1, by rw [size_list]; exact w2, q3⟩
theorem choose_sts {p : Nat → PSt → Prop} {n : Nat} (h : ∀ i, i < n → ∃ x, p i x) : ∃ f : Nat → PSt, ∀ i, i < n → p i (f i) := by
  refine ⟨fun i => if hi : i < n then Classical.choose (h i hi) else PSt.zero, fun i hi => ?_⟩
  simp only [hi, dif_pos]
  exact Classical.choose_spec (h i hi)
set_option maxRecDepth 100000 in
theorem openSteps {H : Type} {enc : TypeId × Value → H} {W : World} {fuel : Nat} {cs : List Value} {x : DataW H × List MemPlace} (h : DataW.trod enc Tryz.prog W 0 (fun _ => true) true fuel 22 cs = some x) :
    ∃ (a : Option Addr) (ss : List PSt) (c : Nat), cs = [.slice a ss.length c] ∧ ss.length ≤ c ∧ c ≤ maxLen ∧ stEl.InL W a ss ∧ ∀ s ∈ ss, s.fit := by
  have hc13 : Tryz.prog.cellsOf 63 = 13 := by kernel_rfl
  have hcd : Tryz.prog.cellsOf 22 = 1 := by kernel_rfl
  rcases DataW.trod_slice Tryz.underlying22 h with ⟨e3, _⟩ | ⟨a, len, cap, elems, rest, m, hm, e3, _, _, hlc, hcm, hel, hall, _, _⟩
  · exact ⟨none, [], 0, e3, Nat.le_refl _, Nat.zero_le _, El.InL.nil _ _, fun s hs => by simp at hs⟩
  have each : ∀ i, i < len → ∃ d : PSt, W.cells? 0 (a.add (i * 13)) 13 = some d.cs ∧ d.In W ∧ d.fit := by
    intro i hi
    have h1 := hall i hi
    rw [hc13, List.getElem?_eq_getElem (by omega)] at h1
    obtain ⟨cs', h2, h3⟩ := Option.bind_eq_some_iff.1 h1
    obtain ⟨d, rfl, hd⟩ := openStepF h3
    exact ⟨d, h2, hd⟩
  obtain ⟨f, hf2⟩ := choose_sts each
  refine ⟨some a, (List.range len).map f, cap, by simpa [hcd] using e3, by simpa using hlc, hcm, fun j d hj => ?_, fun s hs => ?_⟩
  · have hi : j < len := by have := (List.getElem?_eq_some_iff.1 hj).1; simpa using this
    rw [List.getElem?_map, List.getElem?_range hi] at hj
    simp only [Option.map_some, Option.some.injEq] at hj
    subst hj
    obtain ⟨h0, hd, _⟩ := hf2 j hi
    obtain ⟨hz, _⟩ := hf2 0 (by omega)
    obtain ⟨_, _, z0⟩ := World.cells?_some hz
    have z1 := z0 0 (by simp [PSt.cs])
    rw [Nat.zero_mul, add_zero20, add_zero20] at z1
    rw [List.getElem?_eq_getElem (by simp [PSt.cs])] at z1
    obtain ⟨b, o, rfl⟩ := plain_of_cell z1
    obtain ⟨_, _, hcell⟩ := World.cells?_some h0
    refine ⟨⟨b, o, rfl, fun i v hv => ?_⟩, hd⟩
    have hil : i < 13 := by have := (List.getElem?_eq_some_iff.1 hv).1; simpa [PSt.cs] using this
    have d0 := hcell i hil
    rw [add_plain20, add_plain20] at d0
    rw [← hv]
    exact d0
  · obtain ⟨i, hi, rfl⟩ := List.mem_map.1 hs
    exact (hf2 i (List.mem_range.1 hi)).2.2
set_option maxRecDepth 100000 in
theorem openDef {H : Type} {enc : TypeId × Value → H} {W : World} {r : Reach} {b0 : Nat} {v : Value} {d : DataW H} {ps : List MemPlace} (hval : Value.okWide Tryz.prog W r b0 24 v)
    (hd : DataW.Trod enc Tryz.prog W 0 (fun _ => true) true 24 v d ps) : ∃ D : PDef, v = D.val ∧ D.In W ∧ D.name.length ≤ maxLen ∧ D.text.length ≤ maxLen ∧ ∀ s ∈ D.steps, s.fit := by
  obtain ⟨fuel, h⟩ := hd
  obtain ⟨cs, rfl, hsz⟩ := Go.WideShapes.okWide_struct Tryz.underlying24 hval
  obtain ⟨xs, n, hfu, _, hl, hlen, hf⟩ := DataW.trod_struct Tryz.underlying24 h
  have hc3 : Tryz.prog.cellsOf 24 = 3 := by kernel_rfl
  have hcs : Tryz.prog.cellsOf 9 = 1 := by kernel_rfl
  have hck : Tryz.prog.cellsOf 22 = 1 := by kernel_rfl
  rw [hc3] at hl
  obtain ⟨l, hcl⟩ : ∃ l, (Value.agg cs).cells.toList = l := ⟨_, rfl⟩
  rw [hcl] at hl hf
  match l, hl with
  | [c0, c1, c2], _ =>
    match xs, hlen with
    | [y0, y1, y2], _ =>
      have g0 := hf 0 _ rfl
      have g1 := hf 1 _ rfl
      have g2 := hf 2 _ rfl
      simp only [hcs, hck, List.drop_zero, List.drop_succ_cons, List.take_succ_cons, List.take_zero, List.getElem?_cons_zero, List.getElem?_cons_succ] at g0 g1 g2
      obtain ⟨t0, e0, _, w0⟩ := DataW.trod_string Tryz.underlying9 g0
      obtain ⟨t1, e1, _, w1⟩ := DataW.trod_string Tryz.underlying9 g1
      obtain ⟨a, ss, c, e2, q1, q2, q3, q4⟩ := openSteps g2
      injection e0 with e0
      injection e1 with e1
      injection e2 with e2
      subst e0 e1 e2
      have hc' : cs.toList = [.string t0, .string t1, .slice a ss.length c] := by simpa [Value.cells] using hcl
      refine ⟨⟨t0.data.toList, t1.data.toList, a, c, ss⟩, ?_, ⟨q3, q1, q2⟩, by rw [size_list]; exact w0, by rw [size_list]; exact w1, q4⟩
      show Value.agg cs = Value.agg _
      congr 1
      rw [← Array.toArray_toList (xs := cs), hc']
      first | done | simp [bytes_back]
end Go.Proofs.YtefokfbgpfcbkaaGreat
namespace Go.Proofs.YtefokfbgpfcbkaaGreat
set_option linter.unusedVariables false
set_option linter.unusedSimpArgs false
open Go.RowKit Go.Deep Go.ChangeShapes
def InR {α : Type} (W : World) (k : Nat) (cs : α → List Value) (ad : Option Addr) (l : List α) : Prop := ∀ i z, l[i]? = some z → ∃ b o, ad = some ⟨b, o, none⟩ ∧ ∀ j u, (cs z)[j]? = some u → W.cell? ⟨b, o + i * k + j, none⟩ = some u
theorem cell_ltR {W : World} {b o : Nat} {v : Value} (h : W.cell? ⟨b, o, none⟩ = some v) : b < W.heap.size := by
  rcases Nat.lt_or_ge b W.heap.size with h1 | h1
  · exact h1
  · have h9 : W.heap[b]? = none := Array.getElem?_eq_none h1
    simp [World.cell?, h9] at h
theorem InR.below {α : Type} {W W' : World} {k : Nat} {cs : α → List Value} {ad : Option Addr} {l : List α} (h : InR W k cs ad l) (hb : Below W.heap.size W W') : InR W' k cs ad l := fun i z hz => by
  obtain ⟨b, o, e, hc⟩ := h i z hz
  exact ⟨b, o, e, fun j u hu => (World.cell?_of_block (a := ⟨b, o + i * k + j, none⟩) (hb.block b (cell_ltR (hc j u hu)))).trans (hc j u hu)⟩
theorem chooseR {α : Type} [Inhabited α] {p : Nat → α → Prop} {n : Nat} (h : ∀ i, i < n → ∃ x, p i x) : ∃ f : Nat → α, ∀ i, i < n → p i (f i) := by
  refine ⟨fun i => if hi : i < n then Classical.choose (h i hi) else default, fun i hi => ?_⟩
  simp only [hi, dif_pos]
  exact Classical.choose_spec (h i hi)
set_option maxRecDepth 100000 in
theorem openRowR {α : Type} [Inhabited α] {tS tE : TypeId} {k : Nat} {csOf : α → List Value} (hk : 0 < k) (hlen : ∀ z, (csOf z).length = k) (hu : Tryz.prog.underlying tS = some (.slice tE)) (hcE : Tryz.prog.cellsOf tE = k) (hcS : Tryz.prog.cellsOf tS = 1)
    {H : Type} {enc : TypeId × Value → H} {W : World} (each : ∀ {fuel : Nat} {cs : List Value} {x : DataW H × List MemPlace}, DataW.trod enc Tryz.prog W 0 (fun _ => true) true fuel tE cs = some x → ∃ z, cs = csOf z)
    {r : Reach} {b0 : Nat} {v : Value} {d : DataW H} {ps : List MemPlace} (hval : Value.okWide Tryz.prog W r b0 tS v)
    (hd : DataW.Trod enc Tryz.prog W 0 (fun _ => true) true tS v d ps) : ∃ (ad : Option Addr) (l : List α) (cap : Nat), v = .slice ad l.length cap ∧ InR W k csOf ad l ∧ l.length ≤ maxLen := by
  obtain ⟨fuel, h⟩ := hd
  obtain ⟨sa, sl, sc, rfl⟩ := Go.WideShapes.okWide_slice hu hval
  rcases DataW.trod_slice hu h with ⟨e3, _⟩ | ⟨a, len, cap, elems, rest, m, hm, e3, _, _, hlc, hcm, hel, hall, _, _⟩
  · simp [Value.cells] at e3
    obtain ⟨rfl, rfl, rfl⟩ := e3
    exact ⟨none, [], 0, rfl, fun i z hz => by simp at hz, Nat.zero_le _⟩
  · simp [Value.cells] at e3
    obtain ⟨rfl, rfl, rfl⟩ := e3
    have each2 : ∀ i, i < sl → ∃ z : α, W.cells? 0 (a.add (i * k)) k = some (csOf z) := by
      intro i hi
      have h1 := hall i hi
      rw [hcE, List.getElem?_eq_getElem (by omega)] at h1
      obtain ⟨cs', h2, h3⟩ := Option.bind_eq_some_iff.1 h1
      obtain ⟨z, rfl⟩ := each h3
      exact ⟨z, h2⟩
    obtain ⟨f, hf2⟩ := chooseR each2
    refine ⟨some a, (List.range sl).map f, sc, by simp, fun j z hj => ?_, by simp; omega⟩
    have hi : j < sl := by have := (List.getElem?_eq_some_iff.1 hj).1; simpa using this
    rw [List.getElem?_map, List.getElem?_range hi] at hj
    simp only [Option.map_some, Option.some.injEq] at hj
    subst hj
    have h0 := hf2 j hi
    have hz := hf2 0 (by omega)
    obtain ⟨_, _, z0⟩ := World.cells?_some hz
    have z1 := z0 0 hk
    rw [Nat.zero_mul, add_zero20, add_zero20] at z1
    rw [List.getElem?_eq_getElem (by rw [hlen]; exact hk)] at z1
    obtain ⟨b, o, rfl⟩ := plain_of_cell z1
    obtain ⟨_, _, hcell⟩ := World.cells?_some h0
    refine ⟨b, o, rfl, fun i v hv => ?_⟩
    have hil : i < k := by have := (List.getElem?_eq_some_iff.1 hv).1; rwa [hlen] at this
    have d0 := hcell i hil
    rw [add_plain20, add_plain20] at d0
    rw [← hv]
    exact d0
theorem nat8 {n : Int} (h : (Lit.int .u8 n).wf = true) : ∃ m : Nat, n = (m : Int) := by
  simp only [Lit.wf, Bool.and_eq_true, decide_eq_true_eq] at h
  have h1 : (0 : Int) ≤ n := h.1
  exact ⟨n.toNat, by omega⟩
set_option maxRecDepth 100000 in
theorem openOrder {H : Type} {enc : TypeId × Value → H} {W : World} {fuel : Nat} {cs : List Value} {x : DataW H × List MemPlace} (h : DataW.trod enc Tryz.prog W 0 (fun _ => true) true fuel 35 cs = some x) :
    ∃ (s a : Int) (u : Bool) (t : Int), cs = [.int .i64 s, .int .i64 a, .bool u, .int .i64 t] := by
  obtain ⟨xs, n, hfu, _, hl, hlen, hf⟩ := DataW.trod_struct Tryz.underlying35 h
  have hc : Tryz.prog.cellsOf 35 = 4 := by kernel_rfl
  have hci : Tryz.prog.cellsOf 3 = 1 := by kernel_rfl
  have hcb : Tryz.prog.cellsOf 4 = 1 := by kernel_rfl
  have hcl : Tryz.prog.cellsOf 2 = 1 := by kernel_rfl
  rw [hc] at hl
  match cs, hl with
  | [c0, c1, c2, c3], _ =>
    match xs, hlen with
    | [y0, y1, y2, y3], _ =>
      have g0 := hf 0 _ rfl
      have g1 := hf 1 _ rfl
      have g2 := hf 2 _ rfl
      have g3 := hf 3 _ rfl
      simp only [hci, hcb, hcl, List.drop_zero, List.drop_succ_cons, List.take_succ_cons, List.take_zero, List.getElem?_cons_zero, List.getElem?_cons_succ] at g0 g1 g2 g3
      obtain ⟨n0, e0, _⟩ := DataW.trod_int Tryz.underlying3 g0
      obtain ⟨n1, e1, _⟩ := DataW.trod_int Tryz.underlying3 g1
      obtain ⟨n2, e2, _⟩ := DataW.trod_bool Tryz.underlying4 g2
      obtain ⟨n3, e3, _⟩ := DataW.trod_int Tryz.underlying2 g3
      injection e0 with e0
      injection e1 with e1
      injection e2 with e2
      injection e3 with e3
      subst e0 e1 e2 e3
      exact ⟨n0, n1, n2, n3, rfl⟩
set_option maxRecDepth 100000 in
theorem openAnswer {H : Type} {enc : TypeId × Value → H} {W : World} {fuel : Nat} {cs : List Value} {x : DataW H × List MemPlace} (h : DataW.trod enc Tryz.prog W 0 (fun _ => true) true fuel 37 cs = some x) :
    ∃ (s a : Int) (u : Bool) (o : Nat), cs = [.int .i64 s, .int .i64 a, .bool u, .int .u8 o] := by
  obtain ⟨xs, n, hfu, _, hl, hlen, hf⟩ := DataW.trod_struct Tryz.underlying37 h
  have hc : Tryz.prog.cellsOf 37 = 4 := by kernel_rfl
  have hci : Tryz.prog.cellsOf 3 = 1 := by kernel_rfl
  have hcb : Tryz.prog.cellsOf 4 = 1 := by kernel_rfl
  have hcl : Tryz.prog.cellsOf 5 = 1 := by kernel_rfl
  rw [hc] at hl
  match cs, hl with
  | [c0, c1, c2, c3], _ =>
    match xs, hlen with
    | [y0, y1, y2, y3], _ =>
      have g0 := hf 0 _ rfl
      have g1 := hf 1 _ rfl
      have g2 := hf 2 _ rfl
      have g3 := hf 3 _ rfl
      simp only [hci, hcb, hcl, List.drop_zero, List.drop_succ_cons, List.take_succ_cons, List.take_zero, List.getElem?_cons_zero, List.getElem?_cons_succ] at g0 g1 g2 g3
      obtain ⟨n0, e0, _⟩ := DataW.trod_int Tryz.underlying3 g0
      obtain ⟨n1, e1, _⟩ := DataW.trod_int Tryz.underlying3 g1
      obtain ⟨n2, e2, _⟩ := DataW.trod_bool Tryz.underlying4 g2
      obtain ⟨n3, e3, w3⟩ := DataW.trod_int Tryz.underlying5 g3
      injection e0 with e0
      injection e1 with e1
      injection e2 with e2
      injection e3 with e3
      subst e0 e1 e2 e3
      obtain ⟨m, rfl⟩ := nat8 w3.2
      exact ⟨n0, n1, n2, m, rfl⟩
structure Act33 where
  kind : Nat
  os : Int
  oa : Int
  ou : Bool
  ot : Int
  as_ : Int
  aa : Int
  au : Bool
  ao : Nat
  status : Nat
instance : Inhabited Act33 := ⟨⟨0, 0, 0, false, 0, 0, 0, false, 0, 0⟩⟩
def Act33.cs (a : Act33) : List Value := [.int .u8 a.kind, .int .i64 a.os, .int .i64 a.oa, .bool a.ou, .int .i64 a.ot, .int .i64 a.as_, .int .i64 a.aa, .bool a.au, .int .u8 a.ao, .int .u8 a.status]
set_option maxRecDepth 100000 in
theorem openAct33 {H : Type} {enc : TypeId × Value → H} {W : World} {fuel : Nat} {cs : List Value} {x : DataW H × List MemPlace} (h : DataW.trod enc Tryz.prog W 0 (fun _ => true) true fuel 39 cs = some x) : ∃ z : Act33, cs = z.cs := by
  obtain ⟨xs, n, hfu, _, hl, hlen, hf⟩ := DataW.trod_struct Tryz.underlying39 h
  have hc : Tryz.prog.cellsOf 39 = 10 := by kernel_rfl
  have hco : Tryz.prog.cellsOf 35 = 4 := by kernel_rfl
  have hca : Tryz.prog.cellsOf 37 = 4 := by kernel_rfl
  have hcl : Tryz.prog.cellsOf 5 = 1 := by kernel_rfl
  rw [hc] at hl
  match cs, hl with
  | [c0, c1, c2, c3, c4, c5, c6, c7, c8, c9], _ =>
    match xs, hlen with
    | [y0, y1, y2, y3], _ =>
      have g0 := hf 0 _ rfl
      have g1 := hf 1 _ rfl
      have g2 := hf 2 _ rfl
      have g3 := hf 3 _ rfl
      simp only [hco, hca, hcl, List.drop_zero, List.drop_succ_cons, List.take_succ_cons, List.take_zero, List.getElem?_cons_zero, List.getElem?_cons_succ] at g0 g1 g2 g3
      obtain ⟨n0, e0, w0⟩ := DataW.trod_int Tryz.underlying5 g0
      obtain ⟨os, oa, ou, ot, e1⟩ := openOrder g1
      obtain ⟨as_, aa, au, ao, e2⟩ := openAnswer g2
      obtain ⟨n3, e3, w3⟩ := DataW.trod_int Tryz.underlying5 g3
      cases e0
      cases e1
      cases e2
      cases e3
      obtain ⟨m0, rfl⟩ := nat8 w0.2
      obtain ⟨m3, rfl⟩ := nat8 w3.2
      exact ⟨⟨m0, os, oa, ou, ot, as_, aa, au, ao, m3⟩, rfl⟩
def Acts33 (W : World) (v : Value) : Prop := ∃ (ad : Option Addr) (l : List Act33) (cap : Nat), v = .slice ad l.length cap ∧ InR W 10 Act33.cs ad l ∧ l.length ≤ maxLen
set_option maxRecDepth 100000 in
theorem openActs33 {H : Type} {enc : TypeId × Value → H} {W : World} {r : Reach} {b0 : Nat} {v : Value} {d : DataW H} {ps : List MemPlace} (hval : Value.okWide Tryz.prog W r b0 25 v)
    (hd : DataW.Trod enc Tryz.prog W 0 (fun _ => true) true 25 v d ps) : Acts33 W v :=
  openRowR (k := 10) (csOf := Act33.cs) (by decide) (fun z => rfl) Tryz.underlying25 (by kernel_rfl) (by kernel_rfl) (fun h => openAct33 h) hval hd
end Go.Proofs.YtefokfbgpfcbkaaGreat
