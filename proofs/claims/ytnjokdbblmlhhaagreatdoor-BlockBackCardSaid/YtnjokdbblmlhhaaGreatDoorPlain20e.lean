/- Plain law of layer 20: what may be is read as it was printed. -/
import Derived.Test.YtnjokdbblmlhhaaGreatDoorPlain20d
namespace Go.Proofs.YtnjokdbblmlhhaaGreatDoor
set_option linter.unusedVariables false
set_option linter.unusedSimpArgs false
namespace P20
open P19 (turn close top adds skip signB line toks value allR rowT)
open P18 (cut put plain quote quoteOne stands plainLen)
/-- lines whose first has the tokens ts, and which have, all in all, the tokens m -/
structure LsOk (ls : List (List UInt8)) (m : Bool → Nat → Int → Int → List Mk) : Prop where
  ex : ∃ x r ts a q, ls = x :: r ∧ x = a :: q ∧ a ≠ 32 ∧ Lx x ts ∧ ∀ b k n c, tag b k (ts n c) ++ flatR (n + 1) c r = m b k n c
  ok : ∀ y ∈ ls, LOk y
theorem LsOk.flat {ls : List (List UInt8)} {m : Bool → Nat → Int → Int → List Mk} (h : LsOk ls m) (n c : Int) : flatR n c ls = m true 0 n c := by
  obtain ⟨⟨x, r, ts, a, q, rfl, hx, ha, hl, hm⟩, _⟩ := h
  obtain ⟨e1, e2⟩ := skip_hd hx ha
  rw [flatR, e1, e2]
  unfold P19.toks
  rw [hl _ n (c + ((0 : Nat) : Int)) (Nat.lt_succ_self _), ← hm]
  simp
theorem LOk.dash {x : List UInt8} {a : UInt8} {q : List UInt8} {ts : Int → Int → List Tk} (h : LOk x) (hx : x = a :: q) (ha : a ≠ 32) (hl : Lx x ts) : LOk (45 :: 32 :: x) := by
  refine .of (.cons (by decide) (by decide) rfl (by decide) (.cons (by decide) (by decide) rfl (by decide) h.pc)) ?_ rfl (by decide) (lx_dash hl hx ha)
  have hn : x ≠ [] := by rw [hx]; simp
  rw [List.getLast?_cons_cons, List.getLast?_cons_of_ne_nil hn]
  exact h.last
theorem pc_two : Pc [58, 32] := remark_plain _ (by decide)
theorem pc_one : Pc [58] := remark_plain _ (by decide)
theorem key_line {k : List UInt8} (h : P03.check k 64 = 0) : LOk (put k ++ [58]) := by
  obtain ⟨a, r, e, ha, _⟩ := hd_put k
  refine .of ((Pc.put (vd_of_check h)).append pc_one) (by simp) (a := a) (r := r ++ [58]) (by rw [e]; rfl) ha (lx_key h)
theorem keyleaf_line {k x : List UInt8} {a : UInt8} {r : List UInt8} {t : Int → Int → Tk} (h : P03.check k 64 = 0) (hx : x = a :: r) (ha : a ≠ 32) (hp : Pc x) (hl : x.getLast? ≠ some 32) (hv : ∀ n c, value n c x = (t n c, 0)) : LOk (put k ++ 58 :: 32 :: x) := by
  obtain ⟨a2, r2, e, ha2, _⟩ := hd_put k
  refine .of ((Pc.put (vd_of_check h)).append (pc_two.append hp)) ?_ (a := a2) (r := r2 ++ 58 :: 32 :: x) (by rw [e]; rfl) ha2 (lx_keyleaf h hx ha hv)
  subst hx
  rw [List.getLast?_append]
  simp only [List.getLast?_cons_cons] at hl ⊢
  cases hq : (a :: r).getLast? with
  | none => simp at hq
  | some z => rw [hq] at hl; simpa using hl
mutual
theorem T.lines_ok : ∀ (d : T) (lv : Nat), d.check lv = 0 → LsOk d.lines (fun b k n c => d.ft b k n c)
  | .mk k t ks ds l, lv, h => by
    obtain ⟨h1, h2, h3, h4, h5, h6, h7⟩ := check_mk h
    by_cases hd : ds = []
    · subst hd
      obtain ⟨p1, p2, a, q, p3, p4⟩ := leaf_piece h
      refine ⟨⟨leaf k t, [], _, a, q, ?_, p3, p4, lx_leaf h, fun b k' n c => ?_⟩, fun y hy => ?_⟩
      · unfold T.lines; rw [if_pos (by rfl)]
      · unfold T.ft; rw [if_pos (by rfl)]; rfl
      · unfold T.lines at hy
        rw [if_pos (by rfl)] at hy
        rw [List.mem_singleton.1 hy]
        exact .of p1 p2 p3 p4 (lx_leaf h)
    · have hne : ¬ ds.isEmpty = true := by simpa using hd
      have e1 : T.lines (.mk k t ks ds l) = linesL k ks ds := by unfold T.lines; rw [if_neg hne]
      have e2 : ∀ b k' n c, T.ft b k' n c (.mk k t ks ds l) = ftL k b k' n c ks ds := fun b k' n c => by unfold T.ft; rw [if_neg hne]
      rw [e1]
      simp only [e2]
      have hp := List.length_pos_iff.2 hd
      unfold oddB at h4
      by_cases k1 : k = 1
      · exfalso
        subst k1
        simp at h4
        exact hd h4.2
      · rw [if_neg k1] at h4
        by_cases k2 : k = 2
        · subst k2
          exact linesSeq_ok ds ks (lv + 1) hd h7
        · obtain rfl : k = 3 := by omega
          simp at h4
          exact linesKey_ok ds [] ks (lv + 1) hd h4.2 h6 h7
theorem linesSeq_ok : ∀ (ds : List T) (ks : List (List UInt8)) (lv : Nat), ds ≠ [] → checkL lv ds = 0 → LsOk (linesL 2 ks ds) (fun b k n c => ftL 2 b k n c ks ds)
  | [], ks, lv, hn, hc => absurd rfl hn
  | d :: ds, ks, lv, hn, hc => by
    obtain ⟨hd, hds⟩ := checkL_cons hc
    obtain ⟨⟨x, r, ts, a, q, e, hx, ha, hl, hm⟩, hok⟩ := T.lines_ok d lv hd
    have e1 : linesL 2 ks (d :: ds) = ((45 :: 32 :: x) :: r.map (fun x => [32, 32] ++ x)) ++ linesL 2 ks.tail ds := by
      rw [linesL, if_neg (by omega), if_neg (by omega), e]
      rfl
    have hlen : d.lines.length = r.length + 1 := by rw [e]; rfl
    have hrest : (∀ y ∈ linesL 2 ks.tail ds, LOk y) ∧ ∀ n c, flatR n c (linesL 2 ks.tail ds) = ftL 2 true 0 n c ks.tail ds := by
      cases ds with
      | nil => exact ⟨by simp [linesL], fun n c => by simp [linesL, flatR, ftL]⟩
      | cons d2 ds =>
        have ih := linesSeq_ok (d2 :: ds) ks.tail lv (by simp) hds
        exact ⟨ih.ok, ih.flat⟩
    refine ⟨⟨45 :: 32 :: x, r.map (fun x => [32, 32] ++ x) ++ linesL 2 ks.tail ds, _, 45, 32 :: x, e1, rfl, by decide, lx_dash hl hx ha, fun b k n c => ?_⟩, fun y hy => ?_⟩
    · rw [flatR_append, flatR_in, hrest.2, List.length_map, ftL_seq, tag, ← hm false 3 n (c + 2), hlen]
      simp only [List.cons_append, List.append_assoc]
      congr 3
      congr 1
      simp only [Int.natCast_add, Int.natCast_one]
      omega
    · rw [e1] at hy
      rcases List.mem_append.1 hy with hy | hy
      · rcases List.mem_cons.1 hy with rfl | hy
        · exact (hok x (by rw [e]; simp)).dash hx ha hl
        · obtain ⟨z, hz, rfl⟩ := List.mem_map.1 hy
          exact (hok z (by rw [e]; simp [hz])).blanks
      · exact hrest.1 y hy
theorem linesKey_ok : ∀ (ds : List T) (seen ks : List (List UInt8)) (lv : Nat), ds ≠ [] → ks.length = ds.length → keysE seen ks = 0 → checkL lv ds = 0 → LsOk (linesL 3 ks ds) (fun b k n c => ftL 3 b k n c ks ds)
  | [], seen, ks, lv, hn, hkl, hke, hc => absurd rfl hn
  | d :: ds, seen, [], lv, hn, hkl, hke, hc => by simp at hkl
  | d :: ds, seen, key :: ks, lv, hn, hkl, hke, hc => by
    obtain ⟨hd, hds⟩ := checkL_cons hc
    obtain ⟨q1, q2, q3⟩ := keysE_cons hke
    simp only [List.length_cons, Nat.add_right_cancel_iff] at hkl
    have hD := T.lines_ok d lv hd
    have hrest : (∀ y ∈ linesL 3 ks ds, LOk y) ∧ ∀ n c, flatR n c (linesL 3 ks ds) = ftL 3 true 0 n c ks ds := by
      cases ds with
      | nil => exact ⟨by simp [linesL], fun n c => by simp [linesL, flatR, ftL]⟩
      | cons d2 ds =>
        have ih := linesKey_ok (d2 :: ds) (seen ++ [key]) ks lv (by simp) hkl q3 hds
        exact ⟨ih.ok, ih.flat⟩
    obtain ⟨a2, r2, e2, ha2, _⟩ := hd_put key
    by_cases hleaf : d.kids.isEmpty = true
    · obtain ⟨kd, t, ks', dk, l⟩ := d
      simp only [T.kids] at hleaf
      have hdk : dk = [] := by simpa using hleaf
      subst hdk
      obtain ⟨p1, p2, a, q, p3, p4⟩ := leaf_piece hd
      have e1 : linesL 3 (key :: ks) (.mk kd t ks' [] l :: ds) = (put key ++ 58 :: 32 :: leaf kd t) :: linesL 3 ks ds := by
        rw [linesL, if_pos ⟨rfl, rfl⟩]
        simp [T.lines]
      refine ⟨⟨put key ++ 58 :: 32 :: leaf kd t, linesL 3 ks ds, _, a2, r2 ++ 58 :: 32 :: leaf kd t, e1, by rw [e2]; rfl, ha2, lx_keyleaf q1 p3 p4 (value_leaf hd), fun b k n c => ?_⟩, fun y hy => ?_⟩
      · rw [hrest.2, ftL_leaf _ _ _ _ _ _ _ rfl]
        rfl
      · rw [e1] at hy
        rcases List.mem_cons.1 hy with rfl | hy
        · exact keyleaf_line q1 p3 p4 p1 p2 (value_leaf hd)
        · exact hrest.1 y hy
    · have e1 : linesL 3 (key :: ks) (d :: ds) = (put key ++ [58]) :: (d.lines.map (fun x => [32, 32] ++ x) ++ linesL 3 ks ds) := by
        rw [linesL, if_neg (by simp [hleaf]), if_pos rfl]
        rfl
      refine ⟨⟨put key ++ [58], d.lines.map (fun x => [32, 32] ++ x) ++ linesL 3 ks ds, _, a2, r2 ++ [58], e1, by rw [e2]; rfl, ha2, lx_key q1, fun b k n c => ?_⟩, fun y hy => ?_⟩
      · rw [flatR_append, flatR_in, hrest.2, List.length_map, ftL_key _ _ _ _ _ _ _ hleaf, hD.flat]
        rfl
      · rw [e1] at hy
        rcases List.mem_cons.1 hy with rfl | hy
        · exact key_line q1
        · rcases List.mem_append.1 hy with hy | hy
          · obtain ⟨z, hz, rfl⟩ := List.mem_map.1 hy
            exact (hD.ok z hz).blanks
          · exact hrest.1 y hy
end
theorem LOk.strip {x : List UInt8} (h : LOk x) : strip17 x = x := by
  unfold strip17
  obtain ⟨b, hb⟩ := h.pc.pass true 0 []
  rw [List.append_nil] at hb
  rw [hb]
  have e : remarkAt b false false (0 + x.length) [] = x.length := by simp [remarkAt]
  rw [e, List.take_length]
  unfold trimR
  have hl := h.last
  rw [← List.head?_reverse] at hl
  cases hr : x.reverse with
  | nil =>
    have : x = [] := by simpa using hr
    rw [this]; rfl
  | cons c r =>
    rw [hr] at hl
    have hc : c ≠ 32 := by simpa using hl
    rw [List.dropWhile_cons_of_neg (by simpa using hc), ← hr, List.reverse_reverse]
theorem LOk.row {x : List UInt8} (h : LOk x) (k : Nat) : rowOf k x = some (k + 1, skip x, trimL x) := by
  unfold rowOf
  rw [h.strip, if_neg h.ne]
  have := congrArg List.length (P19.skip_drop x)
  rw [List.length_drop] at this
  have h2 := P19.skip_le x
  rw [show x.length - (trimL x).length = skip x from by omega]
theorem runs_tag : ∀ (ts : List Tk) (n : Int) (b : Bool) (k : Nat) (out : List Tk) (st : List Int), (∀ t ∈ ts, t.2.2.1 = n) → runs (tag b k ts) out st = adds n b k ts out st
  | [], n, b, k, out, st, h => rfl
  | t :: ts, n, b, k, out, st, h => by
    have e := h t List.mem_cons_self
    rw [tag, runs_eq, e]
    unfold P19.adds
    split
    · rfl
    · exact runs_tag ts n false t.1 _ _ (fun x hx => h x (List.mem_cons_of_mem _ hx))
theorem runs_split : ∀ (a b : List Mk) (out o : List Tk) (st s : List Int), runs (a ++ b) out st = (0, o, s) → ∃ o1 s1, runs a out st = (0, o1, s1) ∧ runs b o1 s1 = (0, o, s)
  | [], b, out, o, st, s, h => ⟨out, st, rfl, h⟩
  | (c, k, t) :: a, b, out, o, st, s, h => by
    rw [List.cons_append, runs_eq] at h
    rw [runs_eq]
    by_cases h0 : (turn c k t.2.2.1 t out st).1 = 0
    · rw [if_neg (by simpa using h0)] at h ⊢
      exact runs_split a b _ _ _ _ h
    · rw [if_pos h0] at h
      injection h with h1 _
      exact absurd h1 h0
theorem allR_runs : ∀ (ls : List (List UInt8)) (k : Nat) (b : Bool) (out o : List Tk) (st s : List Int) (last : Int), (∀ y ∈ ls, LOk y) → (b = true → ∀ y ∈ ls.head?, skip y = 0) → runs (flatR (k + 1) 0 ls) out st = (0, o, s) →
    ∃ last', allR b (rowsFrom k ls) out st last = (o ++ (close last' 0 0 s).1, 0, 0)
  | [], k, b, out, o, st, s, last, hok, hb, h => by
    simp only [flatR, runs, Prod.mk.injEq, true_and] at h
    obtain ⟨rfl, rfl⟩ := h
    exact ⟨last, rfl⟩
  | x :: ls, k, b, out, o, st, s, last, hok, hb, h => by
    have hx := hok x List.mem_cons_self
    rw [flatR] at h
    obtain ⟨o1, s1, h1, h2⟩ := runs_split _ _ _ _ _ _ h
    have e0 : ((k : Int) + 1) = ((k + 1 : Nat) : Int) := by omega
    have e1 : (0 : Int) + (skip x : Nat) = ((skip x : Nat) : Int) := by omega
    rw [e0, e1] at h1
    rw [e0] at h2
    have hat : ∀ t ∈ (toks ((k + 1 : Nat) : Int) ((skip x : Nat) : Int) (trimL x)).1, t.2.2.1 = ((k + 1 : Nat) : Int) := fun t ht => ((P19.line_at _ _ _ _).1 t ht).1
    rw [runs_tag _ _ _ _ _ _ hat] at h1
    obtain ⟨last', h3⟩ := allR_runs ls (k + 1) false o1 o s1 s ((k + 1 : Nat) : Int) (fun y hy => hok y (List.mem_cons_of_mem _ hy)) (fun e => by cases e) h2
    refine ⟨last', ?_⟩
    have er : rowsFrom k (x :: ls) = (k + 1, skip x, trimL x) :: rowsFrom (k + 1) ls := by rw [rowsFrom, hx.row k]
    rw [er]
    unfold P19.allR
    have et : (rowT (k + 1, skip x, trimL x)).2 = 0 := hx.tk _ _
    rw [if_neg (by rw [et]; simp), if_neg ?_]
    · simp only [P19.rowT, h1]
      rw [if_neg (by simp)]
      exact h3
    · rintro ⟨hb1, hs⟩
      have := hb hb1 x (by simp)
      simp only [this] at hs
      exact absurd hs (Nat.lt_irrefl 0)
theorem lay_flat : ∀ ls : List (List UInt8), lay [] [] ls = ls.flatMap (fun l => l ++ [10])
  | [] => rfl
  | x :: r => by simp [lay, lay_flat r]
theorem lines_vd : ∀ ls : List (List UInt8), (∀ y ∈ ls, LOk y) → (∀ l ∈ ls, (10 : UInt8) ∉ l) ∧ (∀ l ∈ ls, Vd l) ∧ ∀ l ∈ ls, l.any (_root_.Go.Proofs.YtnjokdbblmlhhaaGreatDoor.oddB) = false := by
  intro ls h
  refine ⟨fun l hl h10 => ?_, fun l hl => ?_, fun l hl => ?_⟩
  · have := (h l hl).pc.clean 10 h10
    exact absurd this (by decide)
  · have := (h l hl).pc.vd [] vd_nil
    simpa using this
  · rw [List.any_eq_false]
    intro c hc
    have := (h l hl).pc.clean c hc
    unfold oddC at this
    simp [this]
/-- WHAT MAY BE IS READ AS IT WAS PRINTED: the tokens of a tree's text are read as that tree, but for lines. -/
theorem print_back (d : T) (h : d.check 1 = 0) (hl : (d.write [] []).length ≤ 1048576) (last : Int) : ∃ ts f d', P19.all (d.write [] []) = (ts, 0, 0) ∧ Rd last f ts (.ok d') ∧ d'.same d = true := by
  have hW := T.write_lines d 1 [] [] h
  have hL := T.lines_ok d 1 h
  rw [hW, lay_flat] at hl ⊢
  obtain ⟨v1, v2, v3⟩ := lines_vd d.lines hL.ok
  have hf := lines17_flat d.lines v1
  have hc : check17 (d.lines.flatMap (fun l => l ++ [10])) = (0, 0) := check_of hl ((vd_lines _).2 (by rw [hf]; exact v2)) (by rw [hf]; exact v3)
  have hE : Enter true 0 1 0 [] [0] [] [] := fun t h1 h2 => turn_back 0 1 0 t [] [] [] (by simp) h2
  obtain ⟨body, ext, e1, e2, e3⟩ := T.ft_node last d 1 true 0 1 0 [] [] [0] [] h rfl hE
  rw [← hL.flat 1 0] at e1
  obtain ⟨x, r, ts, a, q, ex, hx, ha, _, _⟩ := hL.ex
  obtain ⟨last', h3⟩ := allR_runs d.lines 0 true [] _ [0] _ 0 hL.ok (fun _ y hy => by
    rw [ex] at hy
    simp only [List.head?_cons, Option.mem_def, Option.some.injEq] at hy
    subst hy
    exact (skip_hd hx ha).1) (by simpa using e1)
  rw [close_above last' 0 0 [] ext e2] at h3
  obtain ⟨f, d', hv, hsm⟩ := e3 (List.replicate ext.length (2, [], last', 0)) [] (by simp) (rep_kind rfl) (.inr rfl)
  rw [List.append_nil] at hv
  refine ⟨_, f, d', ?_, .ok hv, hsm⟩
  unfold P19.all
  rw [hc, if_neg (by simp)]
  unfold rows17
  rw [hf]
  simpa using h3
end P20
end Go.Proofs.YtnjokdbblmlhhaaGreatDoor
