/- Plain laws of a text's lines. -/
import Derived.Test.YthhdjbpmkfnhjaaDoorETokLines
import Derived.Test.YthhdjbpmkfnhjaaDoorPx3
namespace Go.Proofs.YthhdjbpmkfnhjaaDoor.P
open Go.RowKit Go.Proofs.YthhdjbpmkfnhjaaDoorW.PrintWords Go.Proofs.YthhdjbpmkfnhjaaDoorW.PrintLast
set_option linter.unusedVariables false
set_option linter.unusedSimpArgs false

/-- From some number of rounds on. -/
def Evt {α : Type} (f : Nat → Option α) (r : α) : Prop := ∃ K, ∀ k, K ≤ k → f k = some r
theorem evt_step {α : Type} {f g : Nat → Option α} {r : α} (h : Evt g r) (hs : ∀ k, f (k + 1) = g k) : Evt f r := by
  obtain ⟨K, h⟩ := h
  exact ⟨K + 1, fun k hk => by
    obtain ⟨k, rfl⟩ : ∃ m, k = m + 1 := ⟨k - 1, by omega⟩
    rw [hs]
    exact h k (by omega)⟩
theorem evt_const {α : Type} {f : Nat → Option α} {r : α} (hs : ∀ k, f (k + 1) = some r) : Evt f r := ⟨1, fun k hk => by
  obtain ⟨k, rfl⟩ : ∃ m, k = m + 1 := ⟨k - 1, by omega⟩
  exact hs k⟩
theorem rdT_line (l : List S34) (i : Nat) (h : i < l.length) : rd_T34 l (i : Int) = l[i] := by
  simp [rd_T34, h]
theorem rdT_word (l : List S36) (i : Nat) (h : i < l.length) : rd_T36 l (i : Int) = l[i] := by
  simp [rd_T36, h]
theorem wrap_succ (i : Nat) (h : i < 4611686018427387904) : wrap64 ((i : Int) + 1) = ((i + 1 : Nat) : Int) := by unfold wrap64; omega
/-! Two lists that are one are the same. -/
theorem same_l1 (l : List S34) (hl : l.length < 4611686018427387904) (i : Nat) (hi : i < l.length) (hw : (l[i].f1).length < 4611686018427387904) (h : Evt (fun k => armisticelaw02_same.l0 k l l ((i + 1 : Nat) : Int)) true) : ∀ d j, j + d = (l[i].f1).length → Evt (fun k => armisticelaw02_same.l1 k l l (i : Int) (j : Int)) true
  | 0, j, hj => by
    refine evt_step h (fun k => ?_)
    rw [armisticelaw02_same.l1, if_pos (by omega), if_pos (by omega), rdT_line l i hi, if_neg (by omega), wrap_succ i (by omega)]
  | d + 1, j, hj => by
    refine evt_step (same_l1 l hl i hi hw h d (j + 1) (by omega)) (fun k => ?_)
    rw [armisticelaw02_same.l1, if_pos (by omega), if_pos (by omega), rdT_line l i hi, if_pos (by omega), if_pos (by omega), if_pos (by omega), if_pos (by omega), if_neg (by simp), wrap_succ j (by omega)]
theorem same_l0 (l : List S34) (hl : l.length < 4611686018427387904) (hw : ∀ x ∈ l, x.f1.length < 4611686018427387904) : ∀ d i, i + d = l.length → Evt (fun k => armisticelaw02_same.l0 k l l (i : Int)) true
  | 0, i, hi => evt_const (fun k => by rw [armisticelaw02_same.l0, if_neg (by omega)])
  | d + 1, i, hi => by
    have hil : i < l.length := by omega
    have h1 := same_l1 l hl i hil (hw _ (List.getElem_mem hil)) (same_l0 l hl hw d (i + 1) (by omega)) (l[i].f1).length 0 (by omega)
    refine evt_step (evt_step (f := fun k => armisticelaw02_same.j1 k l l (i : Int) false) h1 (fun k => ?_)) (fun k => ?_)
    · rw [armisticelaw02_same.j1, if_neg (by simp)]
      rfl
    · rw [armisticelaw02_same.l0, if_pos (by omega), if_pos (by omega), if_pos (by omega), rdT_line l i hil, if_pos rfl]
      simp
theorem same_refl (l : List S34) (hl : l.length < 4611686018427387904) (hw : ∀ x ∈ l, x.f1.length < 4611686018427387904) : Evt (fun k => armisticelaw02_same.f k l l) true := by
  obtain ⟨K, h⟩ := same_l0 l hl hw l.length 0 (by omega)
  exact ⟨K, fun k hk => by
    show armisticelaw02_same.f k l l = some true
    unfold armisticelaw02_same.f
    rw [if_pos rfl]
    exact h k hk⟩
/-! Lines of a text that stands elsewhere; of two texts. -/
theorem cutF_shift (d : Nat) : ∀ (f p : Nat) (l : List Int), cutF f (p + d) l = (cutF f p l).map fun x => (x.1 + d, x.2)
  | 0, _, _ => rfl
  | f + 1, p, l => by
    by_cases c : l = []
    · subst c
      rfl
    · rw [cutF_cons f _ l c, cutF_cons f p l c, List.map_cons, show p + d + (lineOf l).length + 1 = (p + (lineOf l).length + 1) + d by omega, cutF_shift d f]
theorem cutF_fuel : ∀ (f f' p : Nat) (l : List Int), l.length < f → l.length < f' → cutF f p l = cutF f' p l
  | 0, _, _, _, h, _ => by omega
  | _, 0, _, _, _, h => by omega
  | f + 1, f' + 1, p, l, h, h' => by
    by_cases c : l = []
    · subst c
      rfl
    · have hl : 0 < l.length := List.length_pos_iff.2 c
      rw [cutF_cons f p l c, cutF_cons f' p l c, cutF_fuel f f' _ _ (by rw [List.length_drop]; omega) (by rw [List.length_drop]; omega)]
theorem lineOf_app (a b : List Int) (h : (10 : Int) ∈ a) : lineOf (a ++ b) = lineOf a ∧ (lineOf a).length < a.length := by
  induction a with
  | nil => cases h
  | cons x a ih =>
    unfold lineOf
    by_cases c : x = 10
    · subst c
      simp
    · have hm : (10 : Int) ∈ a := by
        rcases List.mem_cons.1 h with h | h
        · exact absurd h.symm c
        · exact h
      obtain ⟨h1, h2⟩ := ih hm
      unfold lineOf at h1 h2
      have c' : (x != 10) = true := by simpa using c
      rw [List.cons_append, List.takeWhile_cons, List.takeWhile_cons, if_pos c', if_pos c', h1]
      exact ⟨rfl, by simpa using h2⟩
theorem cut_app (y : List Int) : ∀ (n : Nat) (x : List Int), x.length ≤ n → (x = [] ∨ ∃ x', x = x' ++ [10]) → ∀ p f f1 f2, (x ++ y).length < f → x.length < f1 → y.length < f2 →
    cutF f p (x ++ y) = cutF f1 p x ++ cutF f2 (p + x.length) y
  | 0, x, hn, _, p, f, f1, f2, hf, h1, h2 => by
    obtain rfl := List.length_eq_zero_iff.1 (by omega : x.length = 0)
    rw [cutF_nil, List.nil_append, List.nil_append, List.length_nil, Nat.add_zero]
    exact cutF_fuel _ _ _ _ (by simpa using hf) h2
  | n + 1, x, hn, hx, p, f, f1, f2, hf, h1, h2 => by
    rcases hx with rfl | ⟨x', rfl⟩
    · rw [cutF_nil, List.nil_append, List.nil_append, List.length_nil, Nat.add_zero]
      exact cutF_fuel _ _ _ _ (by simpa using hf) h2
    · obtain ⟨f, rfl⟩ : ∃ m, f = m + 1 := ⟨f - 1, by omega⟩
      obtain ⟨f1, rfl⟩ : ∃ m, f1 = m + 1 := ⟨f1 - 1, by omega⟩
      obtain ⟨e1, e2⟩ := lineOf_app (x' ++ [10]) y (by simp)
      have hne : x' ++ [10] ≠ [] := by simp
      have hne2 : x' ++ [10] ++ y ≠ [] := by simp
      rw [cutF_cons f p _ hne2, cutF_cons f1 p _ hne, e1]
      have ed : (x' ++ [10] ++ y).drop ((lineOf (x' ++ [10])).length + 1) = (x' ++ [10]).drop ((lineOf (x' ++ [10])).length + 1) ++ y := by
        rw [List.drop_append_of_le_length (by omega)]
      rw [ed]
      generalize hm : (lineOf (x' ++ [10])).length = m at e2 ⊢
      have hend : (x' ++ [10]).drop (m + 1) = [] ∨ ∃ x'', (x' ++ [10]).drop (m + 1) = x'' ++ [10] := by
        by_cases c : m + 1 ≤ x'.length
        · exact .inr ⟨x'.drop (m + 1), by rw [List.drop_append_of_le_length c]⟩
        · left
          apply List.drop_eq_nil_of_le
          simp only [List.length_append, List.length_cons, List.length_nil]
          omega
      have hlen : ((x' ++ [10]).drop (m + 1)).length = (x' ++ [10]).length - (m + 1) := List.length_drop ..
      have ih := cut_app y n ((x' ++ [10]).drop (m + 1)) (by omega) hend (p + m + 1) f f1 f2 (by rw [List.length_append, hlen]; rw [List.length_append] at hf; omega) (by omega) h2
      have e3 : p + m + 1 + ((x' ++ [10]).length - (m + 1)) = p + (x' ++ [10]).length := by omega
      rw [ih, hlen, e3]
      rfl
def shW (d : Int) (w : S36) : S36 := ⟨w.f0, w.f1 + d⟩
def shL (d : Int) (x : S34) : S34 := ⟨x.f0 + d, x.f1.map (shW d)⟩
theorem wordsAt_shift (d : Int) : ∀ (ws : List ByteArray) (p : Int), wordsAt (p + d) ws = (wordsAt p ws).map (shW d)
  | [], _ => rfl
  | w :: ws, p => by
    show (⟨w, p + d⟩ : S36) :: wordsAt (p + d + (w.size : Int) + 1) ws = _
    rw [show p + d + (w.size : Int) + 1 = (p + (w.size : Int) + 1) + d by omega, wordsAt_shift d ws]
    rfl
theorem verdict_shift (d : Nat) (x : Nat × List Int) : verdict (x.1 + d, x.2) = match verdict x with
    | .skip => .skip
    | .bad e p => .bad e (p + d)
    | .line s => .line (shL d s) := by
  unfold verdict
  dsimp only
  split
  · simp
  · split
    · rfl
    · split
      · simp
        omega
      · dsimp only
        unfold shL
        rw [Int.natCast_add, wordsAt_shift]
theorem linesOf_cases : ∀ xs : List (Nat × List Int), ((linesOf xs).2.1 = 0 ∧ (linesOf xs).2.2 = 0) ∨ ((linesOf xs).2.1 ≠ 0 ∧ (linesOf xs).1 = [])
  | [] => .inl ⟨rfl, rfl⟩
  | x :: xs => by
    have ih := linesOf_cases xs
    have e : linesOf (x :: xs) = (match verdict x with | .skip => linesOf xs | .bad e p => ([], e, p) | .line s => if (linesOf xs).2.1 = 0 then (s :: (linesOf xs).1, (linesOf xs).2) else ([], (linesOf xs).2)) := rfl
    rw [e]
    cases hv : verdict x with
    | skip => exact ih
    | bad e p =>
      refine .inr ⟨?_, rfl⟩
      unfold verdict at hv
      split at hv
      · cases hv; simp
      · split at hv
        · cases hv
        · split at hv
          · cases hv; simp
          · cases hv
    | line s =>
      dsimp only
      split
      · rename_i h0
        rcases ih with h | h
        · exact .inl h
        · exact absurd h0 h.1
      · rename_i h0
        exact .inr ⟨h0, rfl⟩
theorem linesOf_cons (x : Nat × List Int) (xs : List (Nat × List Int)) : linesOf (x :: xs) = (match verdict x with | .skip => linesOf xs | .bad e p => ([], e, p) | .line s => if (linesOf xs).2.1 = 0 then (s :: (linesOf xs).1, (linesOf xs).2) else ([], (linesOf xs).2)) := rfl
theorem linesOf_app (ys : List (Nat × List Int)) : ∀ xs : List (Nat × List Int), linesOf (xs ++ ys) = if (linesOf xs).2.1 = 0 then (if (linesOf ys).2.1 = 0 then ((linesOf xs).1 ++ (linesOf ys).1, 0, 0) else ([], (linesOf ys).2)) else ([], (linesOf xs).2)
  | [] => by
    rw [List.nil_append, if_pos (show (linesOf ([] : List (Nat × List Int))).2.1 = 0 from rfl)]
    rcases linesOf_cases ys with ⟨h1, h2⟩ | ⟨h1, h2⟩
    · rw [if_pos h1]
      have e0 : (linesOf ([] : List (Nat × List Int))).1 = [] := rfl
      rw [e0, List.nil_append]
      exact Prod.ext rfl (Prod.ext h1 h2)
    · rw [if_neg h1]
      exact Prod.ext h2 rfl
  | x :: xs => by
    have ih := linesOf_app ys xs
    have hcx := linesOf_cases xs
    rw [List.cons_append, linesOf_cons, linesOf_cons]
    cases hv : verdict x with
    | skip => exact ih
    | bad e p =>
      dsimp only
      have he : e ≠ 0 := by
        unfold verdict at hv
        split at hv
        · cases hv; simp
        · split at hv
          · cases hv
          · split at hv
            · cases hv; simp
            · cases hv
      rw [if_neg he]
    | line s =>
      dsimp only
      rw [ih]
      generalize linesOf xs = X at hcx ⊢
      generalize linesOf ys = Y
      obtain ⟨a, e, p⟩ := X
      obtain ⟨b, e2, p2⟩ := Y
      dsimp only at hcx ⊢
      by_cases h1 : e = 0
      · by_cases h2 : e2 = 0
        · simp [h1, h2]
        · simp [h1, h2]
      · simp [h1]
theorem linesOf_shift (d : Nat) : ∀ xs : List (Nat × List Int), linesOf (xs.map fun x => (x.1 + d, x.2)) = ((linesOf xs).1.map (shL d), (linesOf xs).2.1, if (linesOf xs).2.1 = 0 then 0 else (linesOf xs).2.2 + d)
  | [] => rfl
  | x :: xs => by
    have ih := linesOf_shift d xs
    have hcx := linesOf_cases xs
    rw [List.map_cons, linesOf_cons, linesOf_cons, verdict_shift]
    cases hv : verdict x with
    | skip => exact ih
    | bad e p =>
      dsimp only
      have he : e ≠ 0 := by
        unfold verdict at hv
        split at hv
        · cases hv; simp
        · split at hv
          · cases hv
          · split at hv
            · cases hv; simp
            · cases hv
      rw [if_neg he]
      rfl
    | line s =>
      dsimp only
      rw [ih]
      generalize linesOf xs = X at hcx ⊢
      obtain ⟨a, e, p⟩ := X
      dsimp only at hcx ⊢
      by_cases h1 : e = 0
      · simp [h1]
      · simp [h1]
end Go.Proofs.YthhdjbpmkfnhjaaDoor.P
