/- How many lines and words a text may have. Plain law. -/
import Derived.Test.YthhdjbpmkfnhjaaDoorM02Lines
namespace Go.Proofs.YthhdjbpmkfnhjaaDoor.Pure.In
open Go.RowKit Go.Proofs.YthhdjbpmkfnhjaaDoor.P Go.Proofs.YthhdjbpmkfnhjaaDoorW.PrintWords Go.Proofs.YthhdjbpmkfnhjaaDoorW.PrintLast
/-! Where lines and words stand. -/
def inR (n : Nat) (x : S34) : Prop := (0 ≤ x.f0 ∧ x.f0 ≤ n) ∧ (∀ w ∈ x.f1, 0 ≤ w.f1 ∧ w.f1 ≤ n) ∧ x.f1.length ≤ n
theorem words_in : ∀ (ws : List ByteArray) (p : Int), 0 ≤ p → ∀ w ∈ wordsAt p ws, 0 ≤ w.f1 ∧ w.f1 ≤ p + sumB ws
  | [], p, _, w, h => by cases h
  | x :: ws, p, hp, w, h => by
    have hs : sumB (x :: ws) = x.size + 1 + sumB ws := by simp [sumB]
    rcases List.mem_cons.1 h with rfl | h
    · exact ⟨hp, by dsimp only; omega⟩
    · have := words_in ws (p + (x.size : Int) + 1) (by omega) w h
      omega
theorem verdict_in (bs : List Int) (x : Nat × List Int) (h2 : x.2 = lineOf (bs.drop x.1)) (h1 : x.1 < bs.length) (s : S34) (hv : verdict x = .line s) : inR (bs.length + 1) s := by
  have hl := lineOf_le (bs.drop x.1)
  rw [← h2, List.length_drop] at hl
  unfold verdict at hv
  split at hv
  · cases hv
  · split at hv
    · cases hv
    · split at hv
      · cases hv
      · cases hv
        have hsum := piecesB_sum (strOfNums x.2)
        rw [strOfNums_size] at hsum
        have hsl := sumB_length (piecesB (strOfNums x.2))
        refine ⟨⟨by dsimp only; omega, by dsimp only; omega⟩, fun w hw => ?_, ?_⟩
        · have := words_in _ _ (by omega) w hw
          omega
        · rw [wordsAt_length]
          omega
theorem linesOf_in (bs : List Int) : ∀ xs : List (Nat × List Int), (∀ x ∈ xs, x.2 = lineOf (bs.drop x.1) ∧ x.1 < bs.length) → (∀ s ∈ (linesOf xs).1, inR (bs.length + 1) s) ∧ (linesOf xs).1.length ≤ xs.length ∧ 0 ≤ (linesOf xs).2.2 ∧ (linesOf xs).2.2 ≤ bs.length + 67108864
  | [], _ => ⟨fun s hs => (by cases hs), Nat.le_refl _, Int.le_refl _, by show (0 : Int) ≤ _; omega⟩
  | x :: xs, h => by
    obtain ⟨i1, i2, i3, i4⟩ := linesOf_in bs xs (fun y hy => h y (List.mem_cons_of_mem _ hy))
    obtain ⟨h2, h1⟩ := h x List.mem_cons_self
    have hl := lineOf_le (bs.drop x.1)
    rw [← h2, List.length_drop] at hl
    rw [linesOf_cons]
    cases hv : verdict x with
    | skip => exact ⟨i1, Nat.le_succ_of_le i2, i3, i4⟩
    | bad e p =>
      refine ⟨fun s hs => (by cases hs), Nat.zero_le _, ?_⟩
      have hr := wrongS_range x.2 false 0
      simp only [Int.natCast_zero, Int.zero_add] at hr
      unfold verdict at hv
      split at hv
      · cases hv
        dsimp only
        omega
      · split at hv
        · cases hv
        · split at hv
          · cases hv
            dsimp only
            omega
          · cases hv
    | line s =>
      dsimp only
      split
      · refine ⟨fun t ht => ?_, by simpa using i2, i3, i4⟩
        rcases List.mem_cons.1 ht with rfl | ht
        · exact verdict_in bs x h2 h1 _ hv
        · exact i1 t ht
      · exact ⟨fun s hs => (by cases hs), Nat.zero_le _, i3, i4⟩
theorem told_in (bs : List Int) (ls : List S34) (e q : Int) (h : token_Lines.f bs = some (ls, e, q)) : ls.length ≤ bs.length ∧ ∀ s ∈ ls, s.f1.length ≤ bs.length + 1 := by
  unfold token_Lines.f at h
  split at h
  · have h := Option.some.inj h
    split at h
    · cases h
      exact ⟨Nat.zero_le _, fun s hs => (by cases hs)⟩
    · have hm := cutF_mem bs (bs.length + 1) 0
      have hlen := cutF_length bs (bs.length + 1) 0
      rw [List.drop_zero] at hm hlen
      obtain ⟨h1, h2, _⟩ := linesOf_in bs (cutF (bs.length + 1) 0 bs) hm
      rw [h] at h1 h2
      exact ⟨Nat.le_trans h2 hlen, fun s hs => (h1 s hs).2.2⟩
  · cases h
end Go.Proofs.YthhdjbpmkfnhjaaDoor.Pure.In
