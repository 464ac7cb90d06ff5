/- What comes of the texts that live reads.; What live of layer 20 calls. -/
import Derived.Test.YtefokfbgpfcbkaaGreatGW20
import Derived.Test.YtefokfbgpfcbkaaGreatGPr20
import Derived.Test.YtefokfbgpfcbkaaGreatGP20
import Derived.Test.YtefokfbgpfcbkaaGreatGN20
import Derived.Test.YtefokfbgpfcbkaaGreatGR20
namespace Go.Proofs.YtefokfbgpfcbkaaGreat
set_option linter.unusedVariables false
set_option linter.unusedSimpArgs false
namespace P20
def T0 : T := .mk 3 [] [[97], [98]] [.mk 2 [] [] [.mk 1 [49] [] [] 2] 2, .mk 3 [] [] [] 3] 1
theorem par_a : PaR [97, 58, 10, 32, 32, 45, 32, 49, 10, 98, 58, 32, 123, 125] (.ok T0) := by
  have h : P19.all [97, 58, 10, 32, 32, 45, 32, 49, 10, 98, 58, 32, 123, 125] = ([(4, [97], 1, 0), (1, [], 2, 2), (3, [], 2, 2), (1, [], 2, 4), (5, [49], 2, 4), (2, [], 3, 0), (2, [], 3, 0), (4, [98], 3, 0), (7, [], 3, 3)], 0, 0) := by decide +kernel
  unfold PaR
  rw [h]
  simp only
  rw [if_neg (by decide), if_neg (by simp)]
  refine ⟨10, .ok (.keys (by omega) (.wi (by decide) (by simp) (by simp [kindOf]) (.ok (.seq (by omega) (.next (.ok (.word (by omega))) (.done (by simp [kindOf]))))) ?_))⟩
  exact .inl (by decide) (by simp) (by simp [kindOf, hereL]) (.nomap (by omega)) (.done (by simp [kindOf]))
theorem par_b : PaR [97, 58, 10, 98, 58, 32, 49] (.error (17, 1)) := by
  have h : P19.all [97, 58, 10, 98, 58, 32, 49] = ([(4, [97], 1, 0), (4, [98], 2, 0), (5, [49], 2, 3)], 0, 0) := by decide +kernel
  unfold PaR
  rw [h]
  simp only
  rw [if_neg (by decide), if_neg (by simp)]
  exact ⟨10, .bad (.keysbad (by omega) (.wibad (by decide) (by simp) (by simp [kindOf]) (.empty (by simp [kindOf]))))⟩
theorem par_c : PaR [] (.error (17, 0)) := by
  have h : P19.all [] = ([], 0, 0) := by decide +kernel
  unfold PaR
  rw [h]
  simp
theorem par_d : PaR [97, 58, 32, 49, 10, 97, 58, 32, 50] (.error (6, 2)) := by
  have h : P19.all [97, 58, 32, 49, 10, 97, 58, 32, 50] = ([(4, [97], 1, 0), (5, [49], 1, 3), (4, [97], 2, 0), (5, [50], 2, 3)], 0, 0) := by decide +kernel
  unfold PaR
  rw [h]
  simp only
  rw [if_neg (by decide), if_neg (by simp)]
  exact ⟨10, .bad (.keysbad (by omega) (.inl (by decide) (by simp) (by simp [kindOf, hereL]) (.word (by omega)) (.twice (by decide) (by simp))))⟩
theorem print_T0 : T0.print = ([97, 58, 10, 32, 32, 45, 32, 49, 10, 98, 58, 32, 123, 125, 10], 0) := by decide +kernel
theorem check_T0 : T0.check 1 = 0 := by decide +kernel
theorem cut_T0 : T0.cut 18 = T0 := rfl
theorem size_T0 : T0.size 18 = (3, 4) := rfl
theorem ok_T0 : okT T0 := by simp [T0, okT, okTs]
end P20
theorem bareL_one {ds : List Nd} {a : P20.T} (h : bareL ds = [a]) : ∃ d, ds = [d] ∧ d.bare = a := by
  cases ds with
  | nil => simp [bareL] at h
  | cons d ds =>
    cases ds with
    | nil => simp only [bareL, List.cons.injEq, and_true] at h; exact ⟨d, rfl, h⟩
    | cons e ds => simp [bareL] at h
theorem bareL_two {ds : List Nd} {a b : P20.T} (h : bareL ds = [a, b]) : ∃ d e, ds = [d, e] ∧ d.bare = a ∧ e.bare = b := by
  cases ds with
  | nil => simp [bareL] at h
  | cons d ds =>
    simp only [bareL, List.cons.injEq] at h
    obtain ⟨e, rfl, he⟩ := bareL_one h.2
    exact ⟨d, e, rfl, h.1, he⟩
theorem bareL_nil {ds : List Nd} (h : bareL ds = []) : ds = [] := by
  cases ds with
  | nil => rfl
  | cons d ds => simp [bareL] at h
/-- the tree's nodes -/
theorem T0_nd {d : Nd} (h : d.bare = P20.T0) : ∃ ka kc da dc d1 d2 ka1 kc1 da1 dc1 d3 ka3 kc3 da3 dc3, d = .mk 3 [] ka kc [[97], [98]] da dc [d1, d2] 1 ∧ d1 = .mk 2 [] ka1 kc1 [] da1 dc1 [d3] 2 ∧ d3 = .mk 1 [49] ka3 kc3 [] da3 dc3 [] 2 := by
  obtain ⟨k, t, ka, kc, ks, da, dc, ds, l⟩ := d
  simp only [Nd.bare, P20.T0, P20.T.mk.injEq] at h
  obtain ⟨rfl, rfl, rfl, h, rfl⟩ := h
  obtain ⟨d1, d2, rfl, h1, h2⟩ := bareL_two h
  obtain ⟨k1, t1, ka1, kc1, ks1, da1, dc1, ds1, l1⟩ := d1
  simp only [Nd.bare, P20.T.mk.injEq] at h1
  obtain ⟨rfl, rfl, rfl, h1, rfl⟩ := h1
  obtain ⟨d3, rfl, h3⟩ := bareL_one h1
  obtain ⟨k3, t3, ka3, kc3, ks3, da3, dc3, ds3, l3⟩ := d3
  simp only [Nd.bare, P20.T.mk.injEq] at h3
  obtain ⟨rfl, rfl, rfl, h3, rfl⟩ := h3
  obtain rfl := bareL_nil h3
  exact ⟨_, _, _, _, _, _, _, _, _, _, _, _, _, _, _, rfl, rfl, rfl⟩
theorem T0_at {d : Nd} (h : d.bare = P20.T0) : ∃ nd, d.at [[97], [48]] = some nd ∧ nd.text = [49] := by
  obtain ⟨ka, kc, da, dc, d1, d2, ka1, kc1, da1, dc1, d3, ka3, kc3, da3, dc3, rfl, rfl, rfl⟩ := T0_nd h
  refine ⟨.mk 1 [49] ka3 kc3 [] da3 dc3 [] 2, ?_, rfl⟩
  have h1 : kIdx 3 [[97], [98]] [97] = ((0 : Nat) : Int) := by decide +kernel
  have h2 : kIdx 2 [] [48] = ((0 : Nat) : Int) := by decide +kernel
  have e1 : (Nd.mk 3 [] ka kc [[97], [98]] da dc [.mk 2 [] ka1 kc1 [] da1 dc1 [.mk 1 [49] ka3 kc3 [] da3 dc3 [] 2] 2, d2] 1).next [97] = some (.mk 2 [] ka1 kc1 [] da1 dc1 [.mk 1 [49] ka3 kc3 [] da3 dc3 [] 2] 2) := Nd.next_some (i := 0) h1 rfl
  have e2 : (Nd.mk 2 [] ka1 kc1 [] da1 dc1 [.mk 1 [49] ka3 kc3 [] da3 dc3 [] 2] 2).next [48] = some (.mk 1 [49] ka3 kc3 [] da3 dc3 [] 2) := Nd.next_some (i := 0) h2 rfl
  simp only [Nd.at, e1, e2]
end Go.Proofs.YtefokfbgpfcbkaaGreat
namespace Go.Proofs.YtefokfbgpfcbkaaGreat
set_option linter.unusedVariables false
set_option linter.unusedSimpArgs false
open Go.RowKit
theorem mxL_size (d : Nd) : mxL (d.preN 18 1) = (d.bare.size 18).1 := by
  rw [← P20.depth_size, ← Nd.preN_bare]
  unfold mxL
  rw [List.map_map]
  rfl
theorem preN_size (d : Nd) : (d.preN 18 1).length = (d.bare.size 18).2 := by
  rw [← P20.count_size, ← Nd.preN_bare, List.length_map]
/-- a value that is the first tree -/
def TIs (n : Value) (V : World) : Prop := ∃ d : Nd, d.val = n ∧ d.bare = P20.T0 ∧ d.In V
theorem TIs.below {n : Value} {V W : World} (h : TIs n V) (hb : Below V.heap.size V W) : TIs n W := by
  obtain ⟨d, h1, h2, h3⟩ := h
  exact ⟨d, h1, h2, h3.below hb⟩
theorem write_T0 : (P20.T0.write [] []).length < 549755813888 := by decide +kernel
theorem check_a {n : Value} {V : World} (h : TIs n V) : Calls Tryz.prog 171 #[n] V fun e w' => e = .returned (.int .i64 0) ∧ Below V.heap.size V w' := by
  obtain ⟨d, rfl, hb, hi⟩ := h
  have h1 := Check20_any d V hi (by rw [hb]; exact P20.ok_T0)
  rw [hb, P20.check_T0] at h1
  exact h1
theorem depth_a {n : Value} {V : World} (h : TIs n V) : Calls Tryz.prog 172 #[n] V fun e w' => e = .returned (.int .i64 3) ∧ Below V.heap.size V w' := by
  obtain ⟨d, rfl, hb, hi⟩ := h
  have h1 := Depth_any d V hi
  rw [mxL_size, hb, P20.size_T0] at h1
  exact h1
theorem copy_a {n : Value} {V : World} (h : TIs n V) : Calls Tryz.prog 111 #[n] V fun e w' => ∃ m, e = .returned m ∧ Hid (TIs m w') ∧ Below V.heap.size V w' := by
  obtain ⟨d, rfl, hb, hi⟩ := h
  refine (Copy20_any d V hi (by rw [hb]; exact P20.ok_T0)).mono ?_
  rintro e w' ⟨k, t, ka, kc, ks, da, dc, ds, l, rfl, HN, hb2⟩
  obtain ⟨h1, h2, _⟩ := unhide HN
  exact ⟨_, rfl, hide ⟨_, rfl, by rw [h1, hb, P20.cut_T0], h2⟩, hb2⟩
theorem same_a {m n : Value} {V : World} (h' : TIs m V) (h : TIs n V) : Calls Tryz.prog 200 #[m, n] V fun e w' => e = .returned (.bool true) ∧ Below V.heap.size V w' := by
  obtain ⟨d, rfl, hb, hi⟩ := h
  obtain ⟨d', rfl, hb', hi'⟩ := h'
  have h1 := Same20_any d' d V hi' hi
  rw [hb, hb', P20.T.same_refl] at h1
  exact h1
end Go.Proofs.YtefokfbgpfcbkaaGreat
