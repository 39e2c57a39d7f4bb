/- TokenTwo: lines of two texts, the first of which ends with a line feed, are those of both, one behind the other; a fault is that of the first that has one. No condition but the row's own. -/
import Derived.Test.YthhdjbpmkfnhjaaDoorM02Lines
import Derived.Test.YthhdjbpmkfnhjaaDoorPx8
namespace Go.Proofs.YthhdjbpmkfnhjaaDoor.Pure
open Go.RowKit Go.Proofs.YthhdjbpmkfnhjaaDoor.P Go.Proofs.YthhdjbpmkfnhjaaDoorW.PrintWords Go.Proofs.YthhdjbpmkfnhjaaDoorW.PrintLast

/-- A text's lines, by definition. -/
def LN (l : List Int) : List S34 × Int × Int := linesOf (cutF (l.length + 1) 0 l)
theorem lines_f (l : List Int) (hu : isU8 l = true) (hl : l.length ≤ 67108864) : token_Lines.f l = some (LN l) := by
  unfold token_Lines.f
  rw [if_pos hu, if_neg (by omega)]
  rfl
theorem LN_two (a b : List Int) : LN (a ++ [10] ++ b) = if (LN (a ++ [10])).2.1 = 0 then (if (LN b).2.1 = 0 then ((LN (a ++ [10])).1 ++ (LN b).1.map (shL ((a ++ [10]).length : Nat)), 0, 0) else ([], (LN b).2.1, (LN b).2.2 + ((a ++ [10]).length : Nat))) else ([], (LN (a ++ [10])).2) := by
  unfold LN
  rw [cut_app b (a ++ [10]).length (a ++ [10]) (Nat.le_refl _) (.inr ⟨a, rfl⟩) 0 _ ((a ++ [10]).length + 1) (b.length + 1) (Nat.lt_succ_self _) (Nat.lt_succ_self _) (Nat.lt_succ_self _), linesOf_app, cutF_shift, linesOf_shift]
  dsimp only
  have hc := linesOf_cases (cutF (b.length + 1) 0 b)
  by_cases h1 : (linesOf (cutF ((a ++ [10]).length + 1) 0 (a ++ [10]))).2.1 = 0
  · rw [if_pos h1, if_pos h1]
    by_cases h2 : (linesOf (cutF (b.length + 1) 0 b)).2.1 = 0
    · rw [if_pos h2, if_pos h2]
    · rw [if_neg h2, if_neg h2]
      rcases hc with hc | hc
      · exact absurd hc.1 h2
      · rw [if_neg h2]
  · rw [if_neg h1, if_neg h1]
/-! Where lines and words stand. -/
def inR (n : Nat) (x : S34) : Prop := (0 ≤ x.f0 ∧ x.f0 ≤ n) ∧ (∀ w ∈ x.f1, 0 ≤ w.f1 ∧ w.f1 ≤ n) ∧ x.f1.length ≤ n
theorem words_in : ∀ (ws : List ByteArray) (p : Int), 0 ≤ p → ∀ w ∈ wordsAt p ws, 0 ≤ w.f1 ∧ w.f1 ≤ p + sumB ws
  | [], p, _, w, h => by cases h
  | x :: ws, p, hp, w, h => by
    have hs : sumB (x :: ws) = x.size + 1 + sumB ws := by simp [sumB]
    rcases List.mem_cons.1 h with rfl | h
    · exact ⟨hp, by dsimp only; omega⟩
    · have := words_in ws (p + (x.size : Int) + 1) (by omega) w h
      omega
theorem verdict_in (bs : List Int) (x : Nat × List Int) (h2 : x.2 = lineOf (bs.drop x.1)) (h1 : x.1 < bs.length) (s : S34) (hv : verdict x = .line s) : inR (bs.length + 1) s := by
  have hl := lineOf_le (bs.drop x.1)
  rw [← h2, List.length_drop] at hl
  unfold verdict at hv
  split at hv
  · cases hv
  · split at hv
    · cases hv
    · split at hv
      · cases hv
      · cases hv
        have hsum := piecesB_sum (strOfNums x.2)
        rw [strOfNums_size] at hsum
        have hsl := sumB_length (piecesB (strOfNums x.2))
        refine ⟨⟨by dsimp only; omega, by dsimp only; omega⟩, fun w hw => ?_, ?_⟩
        · have := words_in _ _ (by omega) w hw
          omega
        · rw [wordsAt_length]
          omega
theorem linesOf_in (bs : List Int) : ∀ xs : List (Nat × List Int), (∀ x ∈ xs, x.2 = lineOf (bs.drop x.1) ∧ x.1 < bs.length) → (∀ s ∈ (linesOf xs).1, inR (bs.length + 1) s) ∧ (linesOf xs).1.length ≤ xs.length ∧ 0 ≤ (linesOf xs).2.2 ∧ (linesOf xs).2.2 ≤ bs.length + 67108864
  | [], _ => ⟨fun s hs => (by cases hs), Nat.le_refl _, Int.le_refl _, by show (0 : Int) ≤ _; omega⟩
  | x :: xs, h => by
    obtain ⟨i1, i2, i3, i4⟩ := linesOf_in bs xs (fun y hy => h y (List.mem_cons_of_mem _ hy))
    obtain ⟨h2, h1⟩ := h x List.mem_cons_self
    have hl := lineOf_le (bs.drop x.1)
    rw [← h2, List.length_drop] at hl
    rw [linesOf_cons]
    cases hv : verdict x with
    | skip => exact ⟨i1, Nat.le_succ_of_le i2, i3, i4⟩
    | bad e p =>
      refine ⟨fun s hs => (by cases hs), Nat.zero_le _, ?_⟩
      have hr := wrongS_range x.2 false 0
      simp only [Int.natCast_zero, Int.zero_add] at hr
      unfold verdict at hv
      split at hv
      · cases hv
        dsimp only
        omega
      · split at hv
        · cases hv
        · split at hv
          · cases hv
            dsimp only
            omega
          · cases hv
    | line s =>
      dsimp only
      split
      · refine ⟨fun t ht => ?_, by simpa using i2, i3, i4⟩
        rcases List.mem_cons.1 ht with rfl | ht
        · exact verdict_in bs x h2 h1 _ hv
        · exact i1 t ht
      · exact ⟨fun s hs => (by cases hs), Nat.zero_le _, i3, i4⟩
theorem LN_in (bs : List Int) : (∀ s ∈ (LN bs).1, inR (bs.length + 1) s) ∧ (LN bs).1.length ≤ bs.length ∧ 0 ≤ (LN bs).2.2 ∧ (LN bs).2.2 ≤ bs.length + 67108864 := by
  have hm := cutF_mem bs (bs.length + 1) 0
  have hlen := cutF_length bs (bs.length + 1) 0
  rw [List.drop_zero] at hm hlen
  obtain ⟨h1, h2, h3⟩ := linesOf_in bs (cutF (bs.length + 1) 0 bs) hm
  exact ⟨h1, by unfold LN; omega, h3⟩
/-! The law's loops. -/
theorem two_l1 (x0 : List Int) (x6 x8 x10 : List S34) (i : Nat) (hi : i < x8.length) (p0 : Int) (n : Nat) (hn : n ≤ 100000) (hx0 : x0.length ≤ 100000) (h8 : inR n x8[i]) (h6 : x6.length ≤ 300000) (r : Bool)
    (h : Evt (fun k => armisticelaw02_TokenTwo.l0 k x0 true (x6 ++ [⟨p0, x8[i].f1.map (shW x0.length)⟩]) x8 x10 (wrap64 ((i : Int) + 1)) 0 0) r) : ∀ d j, j + d = x8[i].f1.length →
    Evt (fun k => armisticelaw02_TokenTwo.l1 k x0 true x6 x8 x10 (i : Int) (j : Int) 0 0 p0 ((x8[i].f1.take j).map (shW x0.length))) r
  | 0, j, hj => by
    refine evt_step h (fun k => ?_)
    rw [armisticelaw02_TokenTwo.l1, if_pos (by omega), if_pos (by omega), rdT_line x8 i hi, if_neg (by omega), if_pos (by omega)]
    rw [List.take_of_length_le (by omega)]
  | d + 1, j, hj => by
    refine evt_step (two_l1 x0 x6 x8 x10 i hi p0 n hn hx0 h8 h6 r h d (j + 1) (by omega)) (fun k => ?_)
    have hjl : j < x8[i].f1.length := by omega
    have hw := h8.2.1 _ (List.getElem_mem hjl)
    have hlen := h8.2.2
    have ew : wrap64 ((x8[i].f1)[j].f1 + (x0.length : Int)) = (x8[i].f1)[j].f1 + (x0.length : Int) := by unfold wrap64; omega
    rw [armisticelaw02_TokenTwo.l1, if_pos (by omega), if_pos (by omega), rdT_line x8 i hi, if_pos (by omega), if_pos (by omega), if_pos (by rw [List.length_map, List.length_take]; omega), wrap_succ j (by omega), rdT_word _ j hjl, ew]
    rw [List.take_succ_eq_append_getElem hjl, List.map_append, List.map_singleton]
    rfl
theorem two_l0 (x0 : List Int) (x8 x10 : List S34) (n : Nat) (hn : n ≤ 100000) (hx0 : x0.length ≤ 100000) (h8 : ∀ s ∈ x8, inR n s) (h8l : x8.length ≤ 100000) (l : List S34) (hl : l.length ≤ 100000) (r : Bool)
    (h : Evt (fun k => armisticelaw02_same.f k x10 (l ++ x8.map (shL x0.length))) r) : ∀ d i, i + d = x8.length →
    Evt (fun k => armisticelaw02_TokenTwo.l0 k x0 true (l ++ (x8.take i).map (shL x0.length)) x8 x10 (i : Int) 0 0) r
  | 0, i, hi => by
    refine evt_step h (fun k => ?_)
    rw [armisticelaw02_TokenTwo.l0, if_neg (by omega), if_pos rfl, List.take_of_length_le (by omega)]
    simp only [beq_self_eq_true, Bool.and_self, if_true]
    exact Option.bind_fun_some _
  | d + 1, i, hi => by
    have hil : i < x8.length := by omega
    have hs := h8 _ (List.getElem_mem hil)
    have ew : wrap64 (x8[i].f0 + (x0.length : Int)) = x8[i].f0 + (x0.length : Int) := by have := hs.1; unfold wrap64; omega
    have ih := two_l0 x0 x8 x10 n hn hx0 h8 h8l l hl r h d (i + 1) (by omega)
    have e1 : l ++ (x8.take (i + 1)).map (shL x0.length) = (l ++ (x8.take i).map (shL x0.length)) ++ [⟨x8[i].f0 + (x0.length : Int), x8[i].f1.map (shW x0.length)⟩] := by
      rw [List.take_succ_eq_append_getElem hil, List.map_append, List.map_singleton, List.append_assoc]
      rfl
    rw [e1, ← wrap_succ i (by omega)] at ih
    have h1 := two_l1 x0 (l ++ (x8.take i).map (shL x0.length)) x8 x10 i hil (x8[i].f0 + (x0.length : Int)) n hn hx0 hs (by rw [List.length_append, List.length_map, List.length_take]; omega) r ih x8[i].f1.length 0 (by omega)
    refine evt_step h1 (fun k => ?_)
    rw [armisticelaw02_TokenTwo.l0, if_pos (by omega), if_pos (by omega), rdT_line x8 i hil, ew]
    rfl
theorem copy_f (l : List Int) (h : l.length < 140737488355328) : armisticekit_CopyBytes.f l = some l := by
  unfold armisticekit_CopyBytes.f
  simp only [Option.bind_some, List.length_nil, Nat.zero_add, List.nil_append]
  rw [if_pos h]
theorem u8_of (l : List Int) (h : ∀ x ∈ l, (Lit.int .u8 x).wf = true) : isU8 l = true := by
  refine List.all_eq_true.2 (fun x hx => ?_)
  have h1 : (decide (0 ≤ x) && decide (x ≤ 255)) = true := h x hx
  simp only [Bool.and_eq_true, decide_eq_true_eq] at h1 ⊢
  omega
theorem main (a b : List Int) (ha : a.length ≤ 500) (hb : b.length ≤ 500) (hua : isU8 a = true) (hub : isU8 b = true) : Evt (fun k => armisticelaw02_TokenTwo.j0 k a b true false) true := by
  have hu1 : isU8 (a ++ [10]) = true := by
    refine List.all_eq_true.2 (fun x hx => ?_)
    rcases List.mem_append.1 hx with hx | hx
    · exact List.all_eq_true.1 hua x hx
    · rw [List.mem_singleton.1 hx]; rfl
  have hu2 : isU8 (a ++ [10] ++ b) = true := by
    refine List.all_eq_true.2 (fun x hx => ?_)
    rcases List.mem_append.1 hx with hx | hx
    · exact List.all_eq_true.1 hu1 x hx
    · exact List.all_eq_true.1 hub x hx
  have hlen : (a ++ [10]).length = a.length + 1 := by simp
  have e : ∀ k, armisticelaw02_TokenTwo.j0 (k + 1) a b true false = (if (LN (a ++ [10])).2.1 = 0 then (if (LN b).2.1 = 0 then (armisticelaw02_TokenTwo.l0 k (a ++ [10]) true (LN (a ++ [10])).1 (LN b).1 (LN (a ++ [10] ++ b)).1 0 (LN (a ++ [10] ++ b)).2.1 (LN (a ++ [10] ++ b)).2.2)
      else (if ((LN (a ++ [10] ++ b)).2.1 == (LN b).2.1 && ((LN (a ++ [10] ++ b)).2.2 == (wrap64 ((LN b).2.2 + ((a ++ [10]).length : Int))))) = true then (some (((LN (a ++ [10] ++ b)).1.length : Int) == 0)) else (some false)))
      else (if ((LN (a ++ [10] ++ b)).2.1 == (LN (a ++ [10])).2.1 && ((LN (a ++ [10] ++ b)).2.2 == (LN (a ++ [10])).2.2)) = true then (some (((LN (a ++ [10] ++ b)).1.length : Int) == 0)) else (some false))) := by
    intro k
    rw [armisticelaw02_TokenTwo.j0, if_neg (by simp), copy_f a (by omega)]
    simp only [Option.bind_some]
    rw [if_pos (by omega)]
    rw [lines_f _ hu1 (by omega)]
    simp only [Option.bind_some]
    rw [lines_f b hub (by omega)]
    simp only [Option.bind_some]
    rw [copy_f _ (by omega)]
    simp only [Option.bind_some]
    rw [if_pos (by omega), lines_f _ hu2 (by rw [List.length_append]; omega)]
    simp only [Option.bind_some, if_true]
  have hB := LN_in b
  have hA := LN_in (a ++ [10])
  by_cases h1 : (LN (a ++ [10])).2.1 = 0
  · by_cases h2 : (LN b).2.1 = 0
    · have hall : LN (a ++ [10] ++ b) = ((LN (a ++ [10])).1 ++ (LN b).1.map (shL ((a ++ [10]).length : Nat)), 0, 0) := by rw [LN_two, if_pos h1, if_pos h2]
      have hsame : Evt (fun k => armisticelaw02_same.f k ((LN (a ++ [10])).1 ++ (LN b).1.map (shL ((a ++ [10]).length : Nat))) ((LN (a ++ [10])).1 ++ (LN b).1.map (shL ((a ++ [10]).length : Nat)))) true := by
        refine same_refl _ (by rw [List.length_append, List.length_map]; omega) (fun x hx => ?_)
        rcases List.mem_append.1 hx with hx | hx
        · have := (hA.1 x hx).2.2
          omega
        · obtain ⟨y, hy, rfl⟩ := List.mem_map.1 hx
          have := (hB.1 y hy).2.2
          show (y.f1.map _).length < _
          rw [List.length_map]
          omega
      have h3 := two_l0 (a ++ [10]) (LN b).1 _ (b.length + 1) (by omega) (by omega) hB.1 (by omega) (LN (a ++ [10])).1 (by omega) true hsame (LN b).1.length 0 (by omega)
      refine evt_step h3 (fun k => ?_)
      rw [e, if_pos h1, if_pos h2, hall]
      rw [List.take_zero, List.map_nil, List.append_nil]
      rfl
    · have hall : LN (a ++ [10] ++ b) = ([], (LN b).2.1, (LN b).2.2 + ((a ++ [10]).length : Nat)) := by rw [LN_two, if_pos h1, if_neg h2]
      refine evt_const (fun k => ?_)
      have ew : wrap64 ((LN b).2.2 + ((a ++ [10]).length : Int)) = (LN b).2.2 + ((a ++ [10]).length : Int) := by unfold wrap64; omega
      rw [e, if_pos h1, if_neg h2, hall, ew]
      simp
  · have hall : LN (a ++ [10] ++ b) = ([], (LN (a ++ [10])).2) := by rw [LN_two, if_neg h1]
    refine evt_const (fun k => ?_)
    rw [e, if_neg h1, hall]
    simp
theorem TokenTwo : armisticelaw02_TokenTwo.Pure := by
  intro a b _ _ hua _ _ hub
  have haw : armisticelaw02_awake.f = some true := rfl
  by_cases c1 : 500 < a.length
  · refine ⟨1, ?_⟩
    unfold armisticelaw02_TokenTwo.f
    rw [haw, Option.bind_some, if_pos (by omega), armisticelaw02_TokenTwo.j0, if_pos rfl]
  · by_cases c2 : 500 < b.length
    · refine ⟨1, ?_⟩
      unfold armisticelaw02_TokenTwo.f
      rw [haw, Option.bind_some, if_neg (by omega), armisticelaw02_TokenTwo.j0, decide_eq_true (show (b.length : Int) > 500 by omega), if_pos rfl]
    · obtain ⟨K, h⟩ := main a b (by omega) (by omega) (u8_of a hua) (u8_of b hub)
      refine ⟨K, ?_⟩
      unfold armisticelaw02_TokenTwo.f
      rw [haw, Option.bind_some, if_neg (by omega), decide_eq_false (show ¬ (b.length : Int) > 500 by omega)]
      exact h K (Nat.le_refl _)
end Go.Proofs.YthhdjbpmkfnhjaaDoor.Pure
