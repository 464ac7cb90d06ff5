/- Lemmas of this claim (a part of its texts, kept as far as the claim reaches them). -/
import Derived.Test.YtefokfbgpfcbkaaGreatM33yZ
import Derived.Test.YtefokfbgpfcbkaaGreatS32aZ
namespace Go.Proofs.YtefokfbgpfcbkaaGreat
set_option linter.unusedVariables false
set_option linter.unusedSimpArgs false
open Go.RowKit
theorem copy33 (d : PDef) (w : World) (hin : d.In w) (hcp : d.cp) : Calls Tryz.prog 67 #[d.val] w (CopyR w d) := by
  obtain ⟨nm, tx, sa, sc, ss⟩ := d
  by_cases h : ss = []
  · subst h
    have := hcp.none_ rfl
    simp only at this
    subst this
    exact Copy_none nm tx sc w
  · obtain ⟨x, r, rfl⟩ : ∃ x r, ss = x :: r := by cases ss with | nil => exact absurd rfl h | cons x r => exact ⟨x, r, rfl⟩
    obtain ⟨⟨b, o, e, _⟩, _⟩ := hin.steps 0 x rfl
    simp only at e
    subst e
    exact Copy_some nm tx b o sc (x :: r) w hin hcp h
theorem set_same33 {L : Array Bool} {i : Nat} (h : L.getD i true = false) : (L.setIfInBounds i true).getD i false = true := by
  obtain ⟨hl, _⟩ := getD_of h
  simp [Array.getD, hl]
theorem set_other33 {L : Array Bool} {i j : Nat} (h : j ≠ i) (hj : (L.setIfInBounds i true).getD j false = true) : L.getD j false = true := by
  rwa [getD_set_ne false (Ne.symm h)] at hj
theorem set_up33 {L : Array Bool} {i j : Nat} (h : L.getD i true = false) (hj : L.getD j false = true) : (L.setIfInBounds i true).getD j false = true := by
  by_cases e : j = i
  · rw [e]; exact set_same33 h
  · rwa [getD_set_ne false (Ne.symm e)]
theorem call33 {f : FuncId} {args : Array Value} {w : World} {o : Oper} {a : Act} {K : Act → World → Prop} {Q : Exit → Act → World → Prop} {R : Ending → World → Prop}
    (hex : (execOp a.eval o).run Tryz.prog w = .ok (.enter f args) w) (h : Calls Tryz.prog f args w R) (hk : ∀ e w', R e w' → ∃ v, e = .returned v ∧ K (a.put o.dst v) w') : Oper.wp Tryz.prog o a w K Q := by
  unfold Oper.wp
  rw [hex, Oper.upon_enter]
  refine h.mono (fun e w' hr => ?_)
  obtain ⟨v, rfl, hkv⟩ := hk e w' hr
  exact hkv
end Go.Proofs.YtefokfbgpfcbkaaGreat
namespace Go.Proofs.YtefokfbgpfcbkaaGreat
set_option linter.unusedVariables false
set_option linter.unusedSimpArgs false
open Go.RowKit
def st1 (l : Int) : PSt := { PSt.zero with name := [97], action := [120], undo := [117], limit := l }
def st2 (ga : Nat) (u : List UInt8) (l : Int) : PSt := { PSt.zero with name := [98], action := [121], undo := u, aa := some ⟨ga, 0, none⟩, ac := 1, after := [[97]], limit := l }
def df2 (g ga : Nat) (u : List UInt8) (l : Int) : PDef := ⟨[116], [], some ⟨g, 0, none⟩, 2, [st1 l, st2 ga u l]⟩
theorem nt_ok2 : okT PSt.zero.note.bare := ⟨Nat.zero_le _, Nat.zero_le _, (fun x hx => nomatch hx), Nat.zero_le _, trivial⟩
theorem st1_in (l : Int) (W : World) : (st1 l).In W := ⟨fun i x h => by simp [st1, PSt.zero] at h, Nat.le_refl _, Nat.zero_le _, Nd.zero_in W⟩
theorem st2_in {W : World} {ga : Nat} {u : List UInt8} {l : Int} (h : W.heap[ga]? = some (.cells #[.string ⟨#[97]⟩] 9)) : (st2 ga u l).In W where
  keys := fun i x hx => by
    match i, hx with
    | 0, hx =>
      cases (show some [97] = some x from hx)
      exact ⟨ga, 0, rfl, (cell1 h).1⟩
  len := Nat.le_refl _
  cap := by show 1 ≤ maxLen; unfold maxLen; omega
  note := Nd.zero_in W
theorem df2_in {W : World} {g ga : Nat} {u : List UInt8} {l : Int} (h : W.heap[g]? = some (.cells ((st1 l).cs ++ (st2 ga u l).cs).toArray 63)) (h2 : W.heap[ga]? = some (.cells #[.string ⟨#[97]⟩] 9)) : (df2 g ga u l).In W where
  steps := fun j s hj => by
    match j, hj with
    | 0, hj =>
      cases (show some (st1 l) = some s from hj)
      refine ⟨⟨g, 0, rfl, fun k v hk => ?_⟩, st1_in l W⟩
      have hk13 : k < 13 := (List.getElem?_eq_some_iff.1 hk).1
      simp only [Nat.zero_mul, Nat.zero_add, Nat.add_zero]
      simp only [World.cell?, h, Option.bind_some]
      refine (List.getElem?_toArray ..).trans ?_
      rw [List.getElem?_append_left (by show k < 13; exact hk13)]
      exact hk
    | 1, hj =>
      cases (show some (st2 ga u l) = some s from hj)
      refine ⟨⟨g, 0, rfl, fun k v hk => ?_⟩, st2_in h2⟩
      simp only [Nat.one_mul, Nat.zero_add]
      simp only [World.cell?, h, Option.bind_some]
      refine (List.getElem?_toArray ..).trans ?_
      rw [List.getElem?_append_right (by show 13 ≤ 13 + k; omega)]
      have e : 13 + k - (st1 l).cs.length = k := by show 13 + k - 13 = k; omega
      rw [e]
      exact hk
  len := Nat.le_refl _
  cap := by show 2 ≤ maxLen; unfold maxLen; omega
theorem two_mem {α : Type} {a b x : α} (h : x ∈ [a, b]) : x = a ∨ x = b := by simpa using h
theorem df2_ok (g ga : Nat) (u : List UInt8) (l : Int) (hu : u.length ≤ 1) : (df2 g ga u l).ok where
  fit := ⟨by show 2 ≤ 100000; omega, by show 1 ≤ maxLen; unfold maxLen; omega, fun s hs => by
    rcases two_mem (show s ∈ [st1 l, st2 ga u l] from hs) with rfl | rfl
    · exact ⟨by show 1 ≤ maxLen; unfold maxLen; omega, by show 1 ≤ maxLen; unfold maxLen; omega, by show 1 ≤ maxLen; unfold maxLen; omega⟩
    · exact ⟨by show 1 ≤ maxLen; unfold maxLen; omega, by show 1 ≤ maxLen; unfold maxLen; omega, by show u.length ≤ maxLen; unfold maxLen; omega⟩, fun s hs => by
    rcases two_mem (show s ∈ [st1 l, st2 ga u l] from hs) with rfl | rfl
    · exact Nat.zero_le _
    · show 1 ≤ _; omega⟩
  short := ⟨by show 1 ≤ 1000000; omega, Nat.zero_le _, by show 2 ≤ 100000; omega, fun s hs => by
    rcases two_mem (show s ∈ [st1 l, st2 ga u l] from hs) with rfl | rfl
    · exact ⟨by show 1 ≤ 1000000; omega, by show 1 ≤ 1000000; omega, by show 1 ≤ 1000000; omega, (fun x hx => nomatch hx), Nat.zero_le _, nt_ok2⟩
    · exact ⟨by show 1 ≤ 1000000; omega, by show 1 ≤ 1000000; omega, by show u.length ≤ 1000000; omega, (fun x hx => by
        have hx : x ∈ [[97]] := hx
        rw [List.mem_singleton] at hx
        subst hx
        show 1 ≤ 1000000; omega), by show 1 ≤ _; omega, nt_ok2⟩⟩
theorem df2_cp (g ga : Nat) (u : List UInt8) (l : Int) : (df2 g ga u l).cp :=
  ⟨by show 2 ≤ 100000; omega, (fun h => nomatch h), fun s hs => by
    rcases two_mem (show s ∈ [st1 l, st2 ga u l] from hs) with rfl | rfl
    · exact Nat.zero_le _
    · show 1 ≤ _; omega, fun s hs => by
    rcases two_mem (show s ∈ [st1 l, st2 ga u l] from hs) with rfl | rfl <;> exact nt_ok2⟩
structure MdX (w : World) (b : Nat) (D : P22.Def) (s : P33.S) (V : World) : Prop where
  ex : ∃ (bm rb C : Nat) (vs : Nat → Value) (d : PDef) (dn un : Value), Md V b bm rb w.heap.size C vs d dn un s ∧ d.bare = D
  inv : P33.Inv D s
  bel : Below w.heap.size w V
namespace MdX
variable {w V : World} {b : Nat} {D : P22.Def} {s : P33.S}
theorem iv_of {v : Value} {l : List Nat} {B : Nat} (h : OwnN V B v l) : Iv V v (l.map fun k : Nat => (k : Int)) := by
  obtain ⟨a, c, rfl, q1, q2, h2⟩ := h.slice
  refine ⟨a, c, by simp, ⟨by simpa using q1, q2⟩, fun j z hj => ?_⟩
  rw [List.getElem?_map] at hj
  cases hk : l[j]? with
  | none => rw [hk] at hj; cases hj
  | some k =>
    rw [hk] at hj
    simp only [Option.map_some, Option.some.injEq] at hj
    subst hj
    obtain ⟨b, o, e, hc⟩ := h2 j k hk
    exact ⟨b, o, e, hc⟩
end MdX
end Go.Proofs.YtefokfbgpfcbkaaGreat
namespace Go.Proofs.YtefokfbgpfcbkaaGreat
set_option linter.unusedVariables false
set_option linter.unusedSimpArgs false
open Go.RowKit
namespace Lv33
variable {w V : World} {b : Nat}
end Lv33
theorem zero_ok33 : PDef.zero.ok where
  fit := ⟨Nat.zero_le _, Nat.zero_le _, (fun s hs => nomatch hs), (fun s hs => nomatch hs)⟩
  short := ⟨Nat.zero_le _, Nat.zero_le _, Nat.zero_le _, (fun s hs => nomatch hs)⟩
end Go.Proofs.YtefokfbgpfcbkaaGreat
namespace Go.Proofs.YtefokfbgpfcbkaaGreat
set_option linter.unusedVariables false
set_option linter.unusedSimpArgs false
open Go.RowKit
set_option maxRecDepth 100000 in
set_option maxHeartbeats 2000000 in
theorem SNew_bad (d : PDef) (w : World) (hin : d.In w) (hok : d.ok) (hc : P28.clean d.bare = false) : Calls Tryz.prog 49 #[d.val] w fun e w' => e = .returned (.tuple #[.pointer none, .int .i64 3]) ∧ Below w.heap.size w w' := by
  obtain ⟨H, hH⟩ : ∃ H, w.heap.size = H := ⟨_, rfl⟩
  rw [hH]
  obtain ⟨W1, hW1, hb1, g0, hs1⟩ := new1 w (defO d) H hH
  have hcl := Clean_any d W1 (hin.below (by rw [hH]; exact hb1)) hok
  rw [hc] at hcl
  have g1 := g0
  unfold defO at g1
  obtain ⟨⟨q0, r0⟩, ⟨q1, r1⟩, ⟨q2, r2⟩⟩ := cell3 g1
  have HC := hide hcl
  have HW1 := hide hW1
  have HB1 := hide hb1
  obtain ⟨nm, tx, sa, sc, ss⟩ := d
  obtain ⟨N, hN⟩ : ∃ N, ss.length = N := ⟨_, rfl⟩
  unfold defO at HW1
  unfold PDef.val at HC ⊢
  simp only [hN] at HC HW1 q2 ⊢
  clear hcl hW1 hb1 g0 g1 hin hok hc hN
  go_enter Tryz.func49, Tryz.ntmps49
  go_upto_region 1 with fail
  try rw [hH]
  rw [unhide HW1]
  go_wp2_with (go_at_call 30; with_reducible refine (unhide HC).mono ?_; rintro e w2 ⟨rfl, b2⟩)
  exact bodyPost_ret (results_tmp2 rfl _ _ _) rfl ⟨rfl, (unhide HB1).trans (b2.mono (by omega))⟩
structure NJs (w : World) (H : Nat) (dv : Value) (dc : Array Value) (N : Nat) (RS : List (List Nat)) (CD : P22.Def) (L : Array Bool) (V : World) (d' : PDef) (rb : Nat) (vs : Nat → Value) (bm : Nat) (v2 v3 v7 v8 v9 v10 v11 v12 v13 : Value) : Prop where
  sz : L.size = 9
  bel : Below H w V
  hsz : H + 1 ≤ V.heap.size
  bx : V.heap[H]? = some (.cells dc 24)
  f0 : L.getD 0 false = true → v7 = dv
  f1 : L.getD 1 false = true → v8 = d'.val ∧ d'.In V ∧ d'.bare = CD ∧ ∀ g, d'.blk g → H + 1 ≤ g
  f2 : L.getD 2 false = true → v9 = dv
  f3 : L.getD 3 false = true → v10 = .slice (some ⟨rb, 0, none⟩) N N ∧ Grid V 0 rb vs RS ∧ ∀ g, gridB rb vs N g → H + 1 ≤ g
  f4 : L.getD 4 false = true → v11 = .map (some bm) ∧ H + 1 ≤ bm ∧ V.heap[bm]? = some (.map #[] 0)
  s1 : L.getD 1 false = true → L.getD 4 false = true → ¬ d'.blk bm
  s3 : L.getD 3 false = true → L.getD 4 false = true → ¬ gridB rb vs N bm
  f5 : L.getD 5 false = true → v12 = .agg #[.string ⟨d'.name.toArray⟩, .string ⟨d'.text.toArray⟩, .slice d'.sa d'.steps.length d'.sc, .slice (some ⟨rb, 0, none⟩) N N, .map (some bm), .slice none 0 0, .slice none 0 0, .int .u8 0]
  f6 : L.getD 6 false = true → ∃ b, v13 = .pointer (some ⟨b, 0, none⟩) ∧ H ≤ b ∧ H ≤ bm ∧ Sg V b bm rb (b + 1) vs d' (.slice none 0 0) (.slice none 0 0) P32.S.new
  f7 : L.getD 7 false = true → v2 = v13
  f8 : L.getD 8 false = true → v3 = .int .i64 0
  g5 : L.getD 5 false = true → L.getD 1 false = true ∧ L.getD 3 false = true ∧ L.getD 4 false = true
  g6 : L.getD 6 false = true → L.getD 5 false = true
  g7 : L.getD 7 false = true → L.getD 6 false = true
set_option maxRecDepth 100000 in
set_option maxHeartbeats 8000000 in
theorem SNew_good (d : PDef) (w : World) (hin : d.In w) (hok : d.ok) (hcp : d.cp) (hc : P28.clean d.bare = true) (haf : ∀ s ∈ d.steps, s.after.length ≤ 1000000) : Calls Tryz.prog 49 #[d.val] w fun e w' =>
    ∃ (b bm rb C : Nat) (vs : Nat → Value) (d' : PDef), e = .returned (.tuple #[.pointer (some ⟨b, 0, none⟩), .int .i64 0]) ∧ ((w.heap.size ≤ b ∧ w.heap.size ≤ bm ∧ Sg w' b bm rb C vs d' (.slice none 0 0) (.slice none 0 0) P32.S.new) ∧ d'.bare = cutD d.bare) ∧ Below w.heap.size w w' := by
  obtain ⟨H, hH⟩ : ∃ H, w.heap.size = H := ⟨_, rfl⟩
  rw [hH]
  obtain ⟨W1, hW1, hb1, g0, hs1⟩ := new1 w (defO d) H hH
  have hinV : ∀ V, Below H w V → d.In V := fun V hV => hin.below (by rw [hH]; exact hV)
  have hcl := Clean_any d W1 (hinV W1 hb1) hok
  rw [hc] at hcl
  have hcopy := fun V (hV : Below H w V) => copy33 d V (hinV V hV) hcp
  have hrefs := fun V (hV : Below H w V) => Refs_any d V (hinV V hV) hcp.len haf
  have hmm := @run_makeMap Tryz.prog
  have hne : d.steps ≠ [] := fun e => by
    have h9 : P28.clean d.bare = true := hc
    unfold P28.clean P28.namesP at h9
    simp [PDef.bare, e, P28.nt] at h9
  have hcut : (cutD d.bare).steps.length = d.steps.length := by simp [cutD, PDef.bare]
  have hrefc : P28.refs (cutD d.bare) = P28.refs d.bare := by
    unfold P28.refs P28.names P28.afters cutD
    simp [List.map_map, Function.comp_def, cutS]
  have hnl := hcp.len
  have g1 := g0
  unfold defO at g1
  obtain ⟨⟨q0, r0⟩, ⟨q1, r1⟩, ⟨q2, r2⟩⟩ := cell3 g1
  obtain ⟨CD, hCD⟩ : ∃ CD, cutD d.bare = CD := ⟨_, rfl⟩
  obtain ⟨RS, hRS⟩ : ∃ RS, P28.refs d.bare = RS := ⟨_, rfl⟩
  rw [hCD] at hcut hrefc
  rw [hRS] at hrefs hrefc
  rw [hCD]
  unfold CopyR at hcopy
  rw [hCD] at hcopy
  have HC := hide hcl
  have HW1 := hide hW1
  have HB1 := hide hb1
  have HG0 := hide g1
  have HCP := hide hcopy
  have HRF := hide hrefs
  obtain ⟨nm, tx, sa, sc, ss⟩ := d
  obtain ⟨N, hN⟩ : ∃ N, ss.length = N := ⟨_, rfl⟩
  have hN0 : N ≠ 0 := by
    rw [← hN]
    intro e
    exact hne (List.length_eq_zero_iff.1 e)
  unfold defO at HW1
  unfold PDef.val at HC
  simp only [hN] at HC HW1 HG0 q2 hcut hnl
  have HCP : Hid (∀ V, Below H w V → Calls Tryz.prog 67 #[.agg #[.string ⟨nm.toArray⟩, .string ⟨tx.toArray⟩, .slice sa N sc]] V fun e w' => ∃ d' : PDef, e = .returned d'.val ∧ d'.In w' ∧ (∀ g, d'.blk g → V.heap.size ≤ g) ∧ d'.bare = CD ∧ Below V.heap.size V w') := by
    have h := unhide HCP
    unfold PDef.val at h
    simp only [hN] at h
    exact hide h
  have HRF : Hid (∀ V, Below H w V → Calls Tryz.prog 59 #[.agg #[.string ⟨nm.toArray⟩, .string ⟨tx.toArray⟩, .slice sa N sc]] V fun e w' => ∃ b vs, e = .returned (.slice (some ⟨b, 0, none⟩) N N) ∧ Grid w' V.heap.size b vs RS ∧ Below V.heap.size V w') := by
    have h := unhide HRF
    unfold PDef.val at h
    simp only [hN] at h
    exact hide h
  simp only [PDef.val, hN]
  have hmx := hmixed
  have hRSl : RS.length = N := by rw [← hRS, P28.refs_len, Md.blen]; exact hN
  clear hcl hW1 hb1 g0 g1 hin hok hcp hc haf hinV hcopy hrefs hCD hRS hne
  go_enter Tryz.func49, Tryz.ntmps49
  go_upto_region 1 with fail
  try rw [hH]
  rw [unhide HW1]
  go_upto_region 3 with (go_at_call 30; with_reducible refine (unhide HC).mono ?_; rintro e w2 ⟨rfl, b2⟩)
  have hb2 : Below H w w2 := (unhide HB1).trans (b2.mono (by omega))
  have g2 := (b2.block H (by omega)).trans (unhide HG0)
  have hz2 : H + 1 ≤ w2.heap.size := by have := b2.size; omega
  have e67 := enters_of Tryz.func67 (by kernel_rfl) rfl
  have e59 := enters_of Tryz.func59 (by kernel_rfl) rfl
  refine wp_region_inv hmx (fun L a V => ∃ (v2 v3 v7 v8 v9 v10 v11 v12 v13 : Value) (d' : PDef) (rb bm : Nat) (vs : Nat → Value), a = ⟨#[.agg #[.string ⟨nm.toArray⟩, .string ⟨tx.toArray⟩, .slice sa N sc], .pointer (some ⟨H, 0, none⟩), v2, v3, .agg #[.string ⟨nm.toArray⟩, .string ⟨tx.toArray⟩, .slice sa N sc], .bool true, .bool false, (v7), (v8), (v9), (v10), (v11), (v12), (v13)], []⟩ ∧ NJs w H (.agg #[.string ⟨nm.toArray⟩, .string ⟨tx.toArray⟩, .slice sa N sc]) #[.string ⟨nm.toArray⟩, .string ⟨tx.toArray⟩, .slice sa N sc] N RS CD L V d' rb vs bm v2 v3 v7 v8 v9 v10 v11 v12 v13) (by kernel_rfl) ?_ ?_ ?_
  · refine ⟨_, _, _, _, _, _, _, _, _, PDef.zero, 0, 0, fun _ => undef, rfl, by kernel_rfl, hb2.drew, hz2, g2, ?_, ?_, ?_, ?_, ?_, ?_, ?_, ?_, ?_, ?_, ?_, ?_, ?_, ?_⟩
    all_goals (intro h; exact absurd h (by decide))
  · rintro L a V i o ⟨v2, v3, v7, v8, v9, v10, v11, v12, v13, d', rb, bm, vs, rfl, h⟩ ho hi hdep
    have so : ∀ j, j ≠ i → (L.setIfInBounds i true).getD j false = true → L.getD j false = true := fun j hj q => set_other33 hj q
    have up : ∀ j, L.getD j false = true → (L.setIfInBounds i true).getD j false = true := fun j q => set_up33 hi q
    have hi2 := (getD_of hi).2
    match i, ho with
    | 0, ho =>
      cases ho
      refine wpOp_of rfl rfl ?_
      obtain ⟨⟨y0, _⟩, ⟨y1, _⟩, ⟨y2, _⟩⟩ := cell3 h.bx
      refine Oper.wp_mono (K := fun a2 w2 => a2 = ⟨#[.agg #[.string ⟨nm.toArray⟩, .string ⟨tx.toArray⟩, .slice sa N sc], .pointer (some ⟨H, 0, none⟩), v2, v3, .agg #[.string ⟨nm.toArray⟩, .string ⟨tx.toArray⟩, .slice sa N sc], .bool true, .bool false, (.agg #[.string ⟨nm.toArray⟩, .string ⟨tx.toArray⟩, .slice sa N sc]), (v8), (v9), (v10), (v11), (v12), (v13)], []⟩ ∧ w2 = V) (fun a2 w2 he => ?_) (by simp [Oper.wp, go_sem, y0, y1, y2])
      obtain ⟨rfl, rfl⟩ := he
      exact ⟨v2, v3, _, v8, v9, v10, v11, v12, v13, d', rb, bm, vs, rfl, ⟨by simpa using h.sz, h.bel, h.hsz, h.bx, fun _ => rfl, fun q => h.f1 (so 1 (by omega) q), fun q => h.f2 (so 2 (by omega) q), fun q => h.f3 (so 3 (by omega) q), fun q => h.f4 (so 4 (by omega) q), fun q r => h.s1 (so 1 (by omega) q) (so 4 (by omega) r), fun q r => h.s3 (so 3 (by omega) q) (so 4 (by omega) r), fun q => h.f5 (so 5 (by omega) q), fun q => h.f6 (so 6 (by omega) q), fun q => h.f7 (so 7 (by omega) q), fun q => h.f8 (so 8 (by omega) q), fun q => ⟨up 1 (h.g5 (so 5 (by omega) q)).1, up 3 (h.g5 (so 5 (by omega) q)).2.1, up 4 (h.g5 (so 5 (by omega) q)).2.2⟩, fun q => up 5 (h.g6 (so 6 (by omega) q)), fun q => up 6 (h.g7 (so 7 (by omega) q))⟩⟩
    | 1, ho =>
      cases ho
      refine wpOp_of rfl rfl ?_
      obtain rfl := h.f0 (hdep ⟨0, .data⟩ (by simp) rfl)
      refine call33 (f := 67) (args := #[.agg #[.string ⟨nm.toArray⟩, .string ⟨tx.toArray⟩, .slice sa N sc]]) (by simp [execOp, go_sem, e67]) (unhide HCP V h.bel) ?_
      rintro e W ⟨d2, rfl, k1, k2, k3, k4⟩
      have hz := h.hsz
      refine ⟨_, rfl, v2, v3, _, d2.val, v9, v10, v11, v12, v13, d2, rb, bm, vs, rfl, ⟨by simpa using h.sz, h.bel.trans (k4.mono (by omega)), Nat.le_trans hz k4.size, (k4.block H (by omega)).trans h.bx, fun q => h.f0 (so 0 (by omega) q), fun _ => ⟨rfl, k1, k3, fun g hg => Nat.le_trans hz (k2 g hg)⟩, fun q => h.f2 (so 2 (by omega) q), fun q => ⟨(h.f3 (so 3 (by omega) q)).1, (h.f3 (so 3 (by omega) q)).2.1.below k4, (h.f3 (so 3 (by omega) q)).2.2⟩, fun q => ⟨(h.f4 (so 4 (by omega) q)).1, (h.f4 (so 4 (by omega) q)).2.1, (k4.block bm (Array.getElem?_eq_some_iff.1 (h.f4 (so 4 (by omega) q)).2.2).1).trans (h.f4 (so 4 (by omega) q)).2.2⟩, fun _ r hb => by have h1 := (Array.getElem?_eq_some_iff.1 (h.f4 (so 4 (by omega) r)).2.2).1; have := k2 bm hb; omega, fun q r => h.s3 (so 3 (by omega) q) (so 4 (by omega) r), fun q => absurd ((h.g5 (so 5 (by omega) q)).1) (by rw [hi2]; decide), fun q => absurd ((h.g5 (h.g6 (so 6 (by omega) q))).1) (by rw [hi2]; decide), fun q => h.f7 (so 7 (by omega) q), fun q => h.f8 (so 8 (by omega) q), fun q => ⟨up 1 (h.g5 (so 5 (by omega) q)).1, up 3 (h.g5 (so 5 (by omega) q)).2.1, up 4 (h.g5 (so 5 (by omega) q)).2.2⟩, fun q => up 5 (h.g6 (so 6 (by omega) q)), fun q => up 6 (h.g7 (so 7 (by omega) q))⟩⟩
    | 2, ho =>
      cases ho
      refine wpOp_of rfl rfl ?_
      obtain ⟨⟨y0, _⟩, ⟨y1, _⟩, ⟨y2, _⟩⟩ := cell3 h.bx
      refine Oper.wp_mono (K := fun a2 w2 => a2 = ⟨#[.agg #[.string ⟨nm.toArray⟩, .string ⟨tx.toArray⟩, .slice sa N sc], .pointer (some ⟨H, 0, none⟩), v2, v3, .agg #[.string ⟨nm.toArray⟩, .string ⟨tx.toArray⟩, .slice sa N sc], .bool true, .bool false, (v7), (v8), (.agg #[.string ⟨nm.toArray⟩, .string ⟨tx.toArray⟩, .slice sa N sc]), (v10), (v11), (v12), (v13)], []⟩ ∧ w2 = V) (fun a2 w2 he => ?_) (by simp [Oper.wp, go_sem, y0, y1, y2])
      obtain ⟨rfl, rfl⟩ := he
      exact ⟨v2, v3, v7, v8, _, v10, v11, v12, v13, d', rb, bm, vs, rfl, ⟨by simpa using h.sz, h.bel, h.hsz, h.bx, fun q => h.f0 (so 0 (by omega) q), fun q => h.f1 (so 1 (by omega) q), fun _ => rfl, fun q => h.f3 (so 3 (by omega) q), fun q => h.f4 (so 4 (by omega) q), fun q r => h.s1 (so 1 (by omega) q) (so 4 (by omega) r), fun q r => h.s3 (so 3 (by omega) q) (so 4 (by omega) r), fun q => h.f5 (so 5 (by omega) q), fun q => h.f6 (so 6 (by omega) q), fun q => h.f7 (so 7 (by omega) q), fun q => h.f8 (so 8 (by omega) q), fun q => ⟨up 1 (h.g5 (so 5 (by omega) q)).1, up 3 (h.g5 (so 5 (by omega) q)).2.1, up 4 (h.g5 (so 5 (by omega) q)).2.2⟩, fun q => up 5 (h.g6 (so 6 (by omega) q)), fun q => up 6 (h.g7 (so 7 (by omega) q))⟩⟩
    | 3, ho =>
      cases ho
      refine wpOp_of rfl rfl ?_
      obtain rfl := h.f2 (hdep ⟨2, .data⟩ (by simp) rfl)
      refine call33 (f := 59) (args := #[.agg #[.string ⟨nm.toArray⟩, .string ⟨tx.toArray⟩, .slice sa N sc]]) (by simp [execOp, go_sem, e59]) (unhide HRF V h.bel) ?_
      rintro e W ⟨rb2, vs2, rfl, k1, k4⟩
      have hz := h.hsz
      refine ⟨_, rfl, v2, v3, v7, v8, _, .slice (some ⟨rb2, 0, none⟩) N N, v11, v12, v13, d', rb2, bm, vs2, rfl, ⟨by simpa using h.sz, h.bel.trans (k4.mono (by omega)), Nat.le_trans hz k4.size, (k4.block H (by omega)).trans h.bx, fun q => h.f0 (so 0 (by omega) q), fun q => ⟨(h.f1 (so 1 (by omega) q)).1, (h.f1 (so 1 (by omega) q)).2.1.below k4, (h.f1 (so 1 (by omega) q)).2.2⟩, fun q => h.f2 (so 2 (by omega) q), fun _ => ⟨rfl, k1.low (Nat.zero_le _), fun g hg => Nat.le_trans hz (k1.lt (by rw [hRSl]; exact hg)).1⟩, fun q => ⟨(h.f4 (so 4 (by omega) q)).1, (h.f4 (so 4 (by omega) q)).2.1, (k4.block bm (Array.getElem?_eq_some_iff.1 (h.f4 (so 4 (by omega) q)).2.2).1).trans (h.f4 (so 4 (by omega) q)).2.2⟩, fun q r => h.s1 (so 1 (by omega) q) (so 4 (by omega) r), fun _ r hb => by have h1 := (Array.getElem?_eq_some_iff.1 (h.f4 (so 4 (by omega) r)).2.2).1; have := (k1.lt (by rw [hRSl]; exact hb)).1; omega, fun q => absurd ((h.g5 (so 5 (by omega) q)).2.1) (by rw [hi2]; decide), fun q => absurd ((h.g5 (h.g6 (so 6 (by omega) q))).2.1) (by rw [hi2]; decide), fun q => h.f7 (so 7 (by omega) q), fun q => h.f8 (so 8 (by omega) q), fun q => ⟨up 1 (h.g5 (so 5 (by omega) q)).1, up 3 (h.g5 (so 5 (by omega) q)).2.1, up 4 (h.g5 (so 5 (by omega) q)).2.2⟩, fun q => up 5 (h.g6 (so 6 (by omega) q)), fun q => up 6 (h.g7 (so 7 (by omega) q))⟩⟩
    | 4, ho =>
      cases ho
      refine wpOp_of rfl rfl ?_
      refine Oper.wp_mono (K := fun a2 w2 => a2 = ⟨#[.agg #[.string ⟨nm.toArray⟩, .string ⟨tx.toArray⟩, .slice sa N sc], .pointer (some ⟨H, 0, none⟩), v2, v3, .agg #[.string ⟨nm.toArray⟩, .string ⟨tx.toArray⟩, .slice sa N sc], .bool true, .bool false, (v7), (v8), (v9), (v10), (.map (some V.heap.size)), (v12), (v13)], []⟩ ∧ w2 = V.alloc (.map #[] 0)) (fun a2 w2 he => ?_) (by simp [Oper.wp, go_sem, hmm])
      obtain ⟨rfl, rfl⟩ := he
      have hz := h.hsz
      have k4 : Below V.heap.size V (V.alloc (.map #[] 0)) := (Below.refl _ V).alloc (Nat.le_refl _) _
      exact ⟨v2, v3, v7, v8, v9, v10, _, v12, v13, d', rb, V.heap.size, vs, rfl, ⟨by simpa using h.sz, h.bel.trans (k4.mono (by omega)), Nat.le_trans hz k4.size, (k4.block H (by omega)).trans h.bx, fun q => h.f0 (so 0 (by omega) q), fun q => ⟨(h.f1 (so 1 (by omega) q)).1, (h.f1 (so 1 (by omega) q)).2.1.below k4, (h.f1 (so 1 (by omega) q)).2.2⟩, fun q => h.f2 (so 2 (by omega) q), fun q => ⟨(h.f3 (so 3 (by omega) q)).1, (h.f3 (so 3 (by omega) q)).2.1.below k4, (h.f3 (so 3 (by omega) q)).2.2⟩, fun _ => ⟨rfl, hz, World.alloc_heap_new _ _⟩, fun q _ hb => by have := (h.f1 (so 1 (by omega) q)).2.1.lt hb; omega, fun q _ hb => by have := ((h.f3 (so 3 (by omega) q)).2.1.lt (by rw [hRSl]; exact hb)).2; omega, fun q => absurd ((h.g5 (so 5 (by omega) q)).2.2) (by rw [hi2]; decide), fun q => absurd ((h.g5 (h.g6 (so 6 (by omega) q))).2.2) (by rw [hi2]; decide), fun q => h.f7 (so 7 (by omega) q), fun q => h.f8 (so 8 (by omega) q), fun q => ⟨up 1 (h.g5 (so 5 (by omega) q)).1, up 3 (h.g5 (so 5 (by omega) q)).2.1, up 4 (h.g5 (so 5 (by omega) q)).2.2⟩, fun q => up 5 (h.g6 (so 6 (by omega) q)), fun q => up 6 (h.g7 (so 7 (by omega) q))⟩⟩
    | 5, ho =>
      cases ho
      refine wpOp_of rfl rfl ?_
      have l1 := hdep ⟨1, .data⟩ (by simp) rfl
      have l3 := hdep ⟨3, .data⟩ (by simp) rfl
      have l4 := hdep ⟨4, .data⟩ (by simp) rfl
      have e8 := (h.f1 l1).1
      have e10 := (h.f3 l3).1
      have e11 := (h.f4 l4).1
      unfold PDef.val at e8
      subst e8
      subst e10
      subst e11
      refine Oper.wp_mono (K := fun a2 w2 => a2 = ⟨#[.agg #[.string ⟨nm.toArray⟩, .string ⟨tx.toArray⟩, .slice sa N sc], .pointer (some ⟨H, 0, none⟩), v2, v3, .agg #[.string ⟨nm.toArray⟩, .string ⟨tx.toArray⟩, .slice sa N sc], .bool true, .bool false, (v7), (.agg #[.string ⟨d'.name.toArray⟩, .string ⟨d'.text.toArray⟩, .slice d'.sa d'.steps.length d'.sc]), (v9), (.slice (some ⟨rb, 0, none⟩) N N), (.map (some bm)), ((.agg #[.string ⟨d'.name.toArray⟩, .string ⟨d'.text.toArray⟩, .slice d'.sa d'.steps.length d'.sc, .slice (some ⟨rb, 0, none⟩) N N, .map (some bm), .slice none 0 0, .slice none 0 0, .int .u8 0])), (v13)], []⟩ ∧ w2 = V) (fun a2 w2 he => ?_) (by simp [Oper.wp, go_sem]; try exact ⟨rfl, rfl⟩)
      obtain ⟨rfl, rfl⟩ := he
      exact ⟨v2, v3, v7, _, v9, _, _, _, v13, d', rb, bm, vs, rfl, ⟨by simpa using h.sz, h.bel, h.hsz, h.bx, fun q => h.f0 (so 0 (by omega) q), fun q => h.f1 (so 1 (by omega) q), fun q => h.f2 (so 2 (by omega) q), fun q => h.f3 (so 3 (by omega) q), fun q => h.f4 (so 4 (by omega) q), fun q r => h.s1 (so 1 (by omega) q) (so 4 (by omega) r), fun q r => h.s3 (so 3 (by omega) q) (so 4 (by omega) r), fun _ => rfl, fun q => absurd (h.g6 (so 6 (by omega) q)) (by rw [hi2]; decide), fun q => h.f7 (so 7 (by omega) q), fun q => h.f8 (so 8 (by omega) q), fun _ => ⟨up 1 l1, up 3 l3, up 4 l4⟩, fun q => up 5 (h.g6 (so 6 (by omega) q)), fun q => up 6 (h.g7 (so 7 (by omega) q))⟩⟩
    | 6, ho =>
      cases ho
      refine wpOp_of rfl rfl ?_
      have l5 := hdep ⟨5, .data⟩ (by simp) rfl
      obtain ⟨l1, l3, l4⟩ := h.g5 l5
      obtain rfl := h.f5 l5
      obtain ⟨k1, k2, k3, k4⟩ := h.f1 l1
      obtain ⟨m1, m2, m3⟩ := h.f3 l3
      obtain ⟨n1, n2, n3⟩ := h.f4 l4
      have hs1' := h.s1 l1 l4
      have hs3' := h.s3 l3 l4
      have hz := h.hsz
      have hb4 : ∀ o : Obj, Below V.heap.size V (V.alloc o) := fun o => (Below.refl _ V).alloc (Nat.le_refl _) o
      have hdN : d'.steps.length = N := by
        have h7 : d'.bare.steps.length = N := by rw [k3]; exact hcut
        rw [Md.blen] at h7
        exact h7
      have hbml := (Array.getElem?_eq_some_iff.1 n3).1
      have hmd : Sg (V.alloc (.cells #[.string ⟨d'.name.toArray⟩, .string ⟨d'.text.toArray⟩, .slice d'.sa d'.steps.length d'.sc, .slice (some ⟨rb, 0, none⟩) N N, .map (some bm), .slice none 0 0, .slice none 0 0, .int .u8 0] 153)) V.heap.size bm rb (V.heap.size + 1) vs d' (.slice none 0 0) (.slice none 0 0) P32.S.new := {
        bx := (World.alloc_heap_new _ _).trans (by simp [P32.S.new, hdN, sgC]),
        mp := ⟨[], ⟨#[], 0, ((hb4 _).block bm hbml).trans n3, ⟨by simp, by simp⟩, rfl⟩, fun i u => rfl⟩,
        odn := OwnN.nil _ _,
        oun := OwnN.nil _ _,
        apart := fun g hg => (by cases hg),
        df := k2.below (hb4 _),
        dlt := fun g hg => by
          have q1 := k2.lt hg
          exact ⟨by omega, fun e => hs1' (e ▸ hg), by omega⟩,
        gr := by rw [k3, hrefc]; exact m2.below (hb4 _),
        glt := fun g hg => by
          rw [hdN] at hg
          have q1 := (m2.lt (by rw [hRSl]; exact hg)).2
          exact ⟨by omega, fun e => hs3' (e ▸ hg), by omega⟩,
        bne := by omega,
        bc := by omega,
        mc := by omega,
        cw := by simp,
        ok := fun i u => P31.zero_ok,
        nd := List.nodup_nil,
        dl := fun i hi => (by cases hi),
        ul := Nat.le_refl _,
        ne := fun e => hN0 (by rw [← hdN, e]; rfl),
        nle := by rw [hdN]; exact hnl }
      refine Oper.wp_mono (K := fun a2 w2 => a2 = ⟨#[.agg #[.string ⟨nm.toArray⟩, .string ⟨tx.toArray⟩, .slice sa N sc], .pointer (some ⟨H, 0, none⟩), v2, v3, .agg #[.string ⟨nm.toArray⟩, .string ⟨tx.toArray⟩, .slice sa N sc], .bool true, .bool false, (v7), (v8), (v9), (v10), (v11), ((.agg #[.string ⟨d'.name.toArray⟩, .string ⟨d'.text.toArray⟩, .slice d'.sa d'.steps.length d'.sc, .slice (some ⟨rb, 0, none⟩) N N, .map (some bm), .slice none 0 0, .slice none 0 0, .int .u8 0])), (.pointer (some ⟨V.heap.size, 0, none⟩))], []⟩ ∧ w2 = V.alloc (.cells #[.string ⟨d'.name.toArray⟩, .string ⟨d'.text.toArray⟩, .slice d'.sa d'.steps.length d'.sc, .slice (some ⟨rb, 0, none⟩) N N, .map (some bm), .slice none 0 0, .slice none 0 0, .int .u8 0] 153)) (fun a2 w2 he => ?_) (by simp [Oper.wp, go_sem])
      obtain ⟨rfl, rfl⟩ := he
      exact ⟨v2, v3, v7, v8, v9, v10, v11, _, _, d', rb, bm, vs, rfl, ⟨by simpa using h.sz, h.bel.trans ((hb4 _).mono (by omega)), Nat.le_trans hz (hb4 _).size, ((hb4 _).block H (by omega)).trans h.bx, fun q => h.f0 (so 0 (by omega) q), fun _ => ⟨k1, k2.below (hb4 _), k3, k4⟩, fun q => h.f2 (so 2 (by omega) q), fun _ => ⟨m1, m2.below (hb4 _), m3⟩, fun _ => ⟨n1, n2, ((hb4 _).block bm hbml).trans n3⟩, fun q r => h.s1 (so 1 (by omega) q) (so 4 (by omega) r), fun q r => h.s3 (so 3 (by omega) q) (so 4 (by omega) r), fun _ => rfl, fun _ => ⟨V.heap.size, rfl, by omega, by omega, hmd⟩, fun q => absurd (h.g7 (so 7 (by omega) q)) (by rw [hi2]; decide), fun q => h.f8 (so 8 (by omega) q), fun q => ⟨up 1 (h.g5 (so 5 (by omega) q)).1, up 3 (h.g5 (so 5 (by omega) q)).2.1, up 4 (h.g5 (so 5 (by omega) q)).2.2⟩, fun _ => up 5 l5, fun q => up 6 (h.g7 (so 7 (by omega) q))⟩⟩
    | 7, ho =>
      cases ho
      refine wpOp_of rfl rfl ?_
      have l6 := hdep ⟨6, .data⟩ (by simp) rfl
      refine Oper.wp_mono (K := fun a2 w2 => a2 = ⟨#[.agg #[.string ⟨nm.toArray⟩, .string ⟨tx.toArray⟩, .slice sa N sc], .pointer (some ⟨H, 0, none⟩), v13, v3, .agg #[.string ⟨nm.toArray⟩, .string ⟨tx.toArray⟩, .slice sa N sc], .bool true, .bool false, (v7), (v8), (v9), (v10), (v11), (v12), (v13)], []⟩ ∧ w2 = V) (fun a2 w2 he => ?_) (by simp [Oper.wp, go_sem])
      obtain ⟨rfl, rfl⟩ := he
      exact ⟨_, v3, v7, v8, v9, v10, v11, v12, v13, d', rb, bm, vs, rfl, ⟨by simpa using h.sz, h.bel, h.hsz, h.bx, fun q => h.f0 (so 0 (by omega) q), fun q => h.f1 (so 1 (by omega) q), fun q => h.f2 (so 2 (by omega) q), fun q => h.f3 (so 3 (by omega) q), fun q => h.f4 (so 4 (by omega) q), fun q r => h.s1 (so 1 (by omega) q) (so 4 (by omega) r), fun q r => h.s3 (so 3 (by omega) q) (so 4 (by omega) r), fun q => h.f5 (so 5 (by omega) q), fun q => h.f6 (so 6 (by omega) q), fun _ => rfl, fun q => h.f8 (so 8 (by omega) q), fun q => ⟨up 1 (h.g5 (so 5 (by omega) q)).1, up 3 (h.g5 (so 5 (by omega) q)).2.1, up 4 (h.g5 (so 5 (by omega) q)).2.2⟩, fun q => up 5 (h.g6 (so 6 (by omega) q)), fun _ => up 6 l6⟩⟩
    | 8, ho =>
      cases ho
      refine wpOp_of rfl rfl ?_
      refine Oper.wp_mono (K := fun a2 w2 => a2 = ⟨#[.agg #[.string ⟨nm.toArray⟩, .string ⟨tx.toArray⟩, .slice sa N sc], .pointer (some ⟨H, 0, none⟩), v2, .int .i64 0, .agg #[.string ⟨nm.toArray⟩, .string ⟨tx.toArray⟩, .slice sa N sc], .bool true, .bool false, (v7), (v8), (v9), (v10), (v11), (v12), (v13)], []⟩ ∧ w2 = V) (fun a2 w2 he => ?_) (by simp [Oper.wp, go_sem])
      obtain ⟨rfl, rfl⟩ := he
      exact ⟨v2, _, v7, v8, v9, v10, v11, v12, v13, d', rb, bm, vs, rfl, ⟨by simpa using h.sz, h.bel, h.hsz, h.bx, fun q => h.f0 (so 0 (by omega) q), fun q => h.f1 (so 1 (by omega) q), fun q => h.f2 (so 2 (by omega) q), fun q => h.f3 (so 3 (by omega) q), fun q => h.f4 (so 4 (by omega) q), fun q r => h.s1 (so 1 (by omega) q) (so 4 (by omega) r), fun q r => h.s3 (so 3 (by omega) q) (so 4 (by omega) r), fun q => h.f5 (so 5 (by omega) q), fun q => h.f6 (so 6 (by omega) q), fun q => h.f7 (so 7 (by omega) q), fun _ => rfl, fun q => ⟨up 1 (h.g5 (so 5 (by omega) q)).1, up 3 (h.g5 (so 5 (by omega) q)).2.1, up 4 (h.g5 (so 5 (by omega) q)).2.2⟩, fun q => up 5 (h.g6 (so 6 (by omega) q)), fun q => up 6 (h.g7 (so 7 (by omega) q))⟩⟩
    | n + 9, ho => simp at ho
  · rintro L a V ⟨v2, v3, v7, v8, v9, v10, v11, v12, v13, d', rb, bm, vs, rfl, h⟩ hall
    have al : ∀ i, i < 9 → L.getD i false = true := fun i hi => by
      have h1 := hall i
      have hs := h.sz
      simp only [Array.getD_eq_getD_getElem?] at h1 ⊢
      rw [Array.getElem?_eq_getElem (by omega)] at h1 ⊢
      exact h1
    obtain ⟨b, rfl, hmd⟩ := h.f6 (al 6 (by omega))
    obtain rfl := h.f7 (al 7 (by omega))
    obtain rfl := h.f8 (al 8 (by omega))
    have hend := And.intro (And.intro hmd (h.f1 (al 1 (by omega))).2.2.1) h.bel
    have HE := hide hend
    clear hend hmd h
    go_wp2
    exact bodyPost_ret (results_tmp2 rfl _ _ _) rfl ⟨b, bm, rb, b + 1, vs, d', rfl, (unhide HE).1, (unhide HE).2⟩
end Go.Proofs.YtefokfbgpfcbkaaGreat
