/- Plain facts of what operation.Read tells. -/
import Derived.Test.YtkjnbfjbdlcehaaGreatDoorMBackD
import Derived.Test.YtkjnbfjbdlcehaaGreatDoorERead
import Derived.Test.YtkjnbfjbdlcehaaGreatDoorEText
import Derived.Test.YtkjnbfjbdlcehaaGreatDoorM12Lines
namespace Go.Proofs.YtkjnbfjbdlcehaaGreatDoor.P.Z4
open Go.RowKit Go.Proofs.YtkjnbfjbdlcehaaGreatDoor.P Go.Proofs.YtkjnbfjbdlcehaaGreatDoorW.PrintWords Go.Proofs.YtkjnbfjbdlcehaaGreatDoorW.PrintLast Go.Proofs.YtkjnbfjbdlcehaaGreatDoorW.PrintMore
set_option linter.unusedVariables false
set_option linter.unusedSimpArgs false

theorem whole_back {s : ByteArray} {n : Int} (h : wholeF s = some (n, 0)) : isI64 n ∧ putStr n = s := by
  obtain ⟨r, hg, h⟩ := Option.bind_eq_some_iff.1 h
  obtain ⟨x, e, i⟩ := r
  simp only [Option.some.injEq, Prod.mk.injEq] at h
  obtain ⟨rfl, he⟩ := h
  have he0 : e = 0 := by
    split at he
    · assumption
    · cases he
  subst he0
  rcases get_cases s with ⟨_, h1⟩ | ⟨_, i', _, _, h1⟩ | ⟨h20, hne, hgood, h1⟩
  · rw [h1] at hg
    simp at hg
  · rw [h1] at hg
    simp at hg
  · rw [h1] at hg
    exact put_get s h20 hne hgood x 0 i (Option.some.inj hg) rfl
theorem idx_word (s : ByteArray) : ∀ (l : List Kd1) (k i : Nat), Lib.idxByFrom (fun _ y => decide (y.word = s)) default l k = (i : Int) → k ≤ i ∧ ∃ y, l[i - k]? = some y ∧ y.word = s
  | [], k, i, h => by
    have : (-1 : Int) = (i : Int) := h
    omega
  | y :: l, k, i, h => by
    unfold Lib.idxByFrom at h
    by_cases c : y.word = s
    · rw [if_pos (by simp [c])] at h
      have : k = i := by omega
      subst this
      exact ⟨Nat.le_refl _, y, by simp, c⟩
    · rw [if_neg (by simp [c])] at h
      obtain ⟨h1, z, h2, h3⟩ := idx_word s l (k + 1) i h
      refine ⟨by omega, z, ?_, h3⟩
      rw [show i - k = (i - (k + 1)) + 1 by omega]
      simpa using h2
theorem kind_word {s : ByteArray} {k : Int} (h : operation_Kind.f s = some (k, 0)) : (1 ≤ k ∧ k ≤ 15) ∧ (kdOf k).word = s := by
  unfold operation_Kind.f at h
  simp only [Option.some.injEq, Prod.mk.injEq] at h
  obtain ⟨hk, he⟩ := h
  rcases kindIdx_cases s with ⟨i, hi, hx⟩ | hx
  · have hin : 1 ≤ k ∧ k ≤ 15 := by omega
    refine ⟨hin, ?_⟩
    obtain ⟨_, y, hy, hw⟩ := idx_word s (kinds15.take 15) 0 i hx
    unfold kdOf
    rw [if_pos hin, show (k - 1).toNat = i by omega]
    have hy' : kinds15[i]? = some y := by simpa [kinds15] using hy
    rw [getElem!_def, hy']
    exact hw
  · rw [if_pos hx] at he
    cases he
theorem run_cons {l : List ByteArray} {s : StepK} {ss : List StepK} {i : Nat} {x : Int × Int × Int × Int} {R : (Int × Int × Int × Int) × Nat × Int} (h : runSteps l (s :: ss) i x = some R) (h0 : R.2.2 = 0) :
    ¬ i + 1 = l.length ∧ ∃ y, stepF s (rdOf ByteArray.empty l ((i : Int) + 1)) x = some (y, 0) ∧ runSteps l ss (i + 1) y = some R := by
  unfold runSteps at h
  by_cases c : i + 1 = l.length
  · rw [if_pos c] at h
    have := Option.some.inj h
    subst this
    cases h0
  · rw [if_neg c] at h
    refine ⟨c, ?_⟩
    obtain ⟨⟨y, e⟩, hs, h⟩ := Option.bind_eq_some_iff.1 h
    by_cases he : e = 0
    · subst he
      rw [if_pos rfl] at h
      exact ⟨y, hs, h⟩
    · rw [if_neg he] at h
      have := Option.some.inj h
      subst this
      exact absurd h0 he
theorem ba_of {s : ByteArray} {l : List UInt8} (h : s.toList = l) : s = ⟨l.toArray⟩ := by
  rw [ByteArray.toList_eq] at h
  cases s
  subst h
  rfl
theorem first_back {s : ByteArray} {x y : Int × Int × Int × Int} (h : stepF .first s x = some (y, 0)) : isI64 y.1 ∧ putStr y.1 = s ∧ y.2 = x.2 := by
  obtain ⟨⟨n, e⟩, hw, h⟩ := Option.bind_eq_some_iff.1 h
  simp only [Option.some.injEq, Prod.mk.injEq] at h
  obtain ⟨rfl, rfl⟩ := h
  exact ⟨(whole_back hw).1, (whole_back hw).2, rfl⟩
theorem second_back {s : ByteArray} {x y : Int × Int × Int × Int} (h : stepF .second s x = some (y, 0)) : isI64 y.2.1 ∧ putStr y.2.1 = s ∧ y.1 = x.1 ∧ y.2.2 = x.2.2 := by
  obtain ⟨⟨n, e⟩, hw, h⟩ := Option.bind_eq_some_iff.1 h
  simp only [Option.some.injEq, Prod.mk.injEq] at h
  obtain ⟨rfl, rfl⟩ := h
  exact ⟨(whole_back hw).1, (whole_back hw).2, rfl, rfl⟩
theorem arrow_back {s : ByteArray} {x y : Int × Int × Int × Int} (h : stepF .arrow s x = some (y, 0)) : s = ⟨#[45, 62]⟩ ∧ y = x := by
  unfold stepF at h
  simp only [Option.some.injEq, Prod.mk.injEq] at h
  obtain ⟨rfl, he⟩ := h
  split at he
  · exact ⟨ba_of (by assumption), rfl⟩
  · cases he
theorem result_back {s : ByteArray} {x y : Int × Int × Int × Int} (h : stepF .result s x = some (y, 0)) : y.1 = x.1 ∧ y.2.1 = x.2.1 ∧ isI64 y.2.2.2 ∧ toldB y.2.2.1 y.2.2.2 = s := by
  unfold stepF at h
  simp only at h
  have z : isI64 0 := by
    show (-9223372036854775808 : Int) ≤ 0 ∧ (0 : Int) ≤ 9223372036854775807
    omega
  by_cases c : s.toList = [111, 107]
  · rw [if_pos c] at h
    simp only [Option.some.injEq, Prod.mk.injEq] at h
    obtain ⟨rfl, _⟩ := h
    exact ⟨rfl, rfl, z, (ba_of c).symm⟩
  · rw [if_neg c] at h
    by_cases d : s.toList = [110, 111, 110, 101]
    · rw [if_pos d] at h
      simp only [Option.some.injEq, Prod.mk.injEq] at h
      obtain ⟨rfl, _⟩ := h
      exact ⟨rfl, rfl, z, (ba_of d).symm⟩
    · rw [if_neg d] at h
      obtain ⟨⟨n, e⟩, hw, h⟩ := Option.bind_eq_some_iff.1 h
      simp only [Option.some.injEq, Prod.mk.injEq] at h
      obtain ⟨rfl, he⟩ := h
      have he0 : e = 0 := by
        split at he
        · assumption
        · cases he
      subst he0
      exact ⟨rfl, rfl, (whole_back hw).1, (whole_back hw).2⟩
theorem list3 (l : List ByteArray) (h : l.length = 3) : l = [rdOf ByteArray.empty l 0, rdOf ByteArray.empty l 1, rdOf ByteArray.empty l 2] := by
  match l, h with
  | [a, b, c], _ => rfl
theorem list4 (l : List ByteArray) (h : l.length = 4) : l = [rdOf ByteArray.empty l 0, rdOf ByteArray.empty l 1, rdOf ByteArray.empty l 2, rdOf ByteArray.empty l 3] := by
  match l, h with
  | [a, b, c, d], _ => rfl
theorem list5 (l : List ByteArray) (h : l.length = 5) : l = [rdOf ByteArray.empty l 0, rdOf ByteArray.empty l 1, rdOf ByteArray.empty l 2, rdOf ByteArray.empty l 3, rdOf ByteArray.empty l 4] := by
  match l, h with
  | [a, b, c, d, e], _ => rfl
theorem end_ok {l : List ByteArray} {m : Nat} {k : Int} {R : (Int × Int × Int × Int) × Nat × Int} {a b rk rn at_ n : Int} (h : endRead l m k R = some (n, a, b, rk, rn, at_, 0)) :
    R.2.2 = 0 ∧ ¬ m + 1 < l.length ∧ operation_Check.f k R.1.1 R.1.2.1 R.1.2.2.1 R.1.2.2.2 = some 0 ∧ n = k ∧ a = R.1.1 ∧ b = R.1.2.1 ∧ rk = R.1.2.2.1 ∧ rn = R.1.2.2.2 ∧ at_ = 0 := by
  unfold endRead at h
  by_cases c0 : R.2.2 ≠ 0
  · rw [if_pos c0] at h
    simp only [Option.some.injEq, Prod.mk.injEq] at h
    exact absurd h.2.2.2.2.2.2 c0
  · rw [if_neg c0] at h
    by_cases c1 : m + 1 < l.length
    · rw [if_pos c1] at h
      simp at h
    · rw [if_neg c1] at h
      obtain ⟨c, hc, h⟩ := Option.bind_eq_some_iff.1 h
      by_cases d0 : c = 0
      · subst d0
        rw [if_pos rfl] at h
        simp only [Option.some.injEq, Prod.mk.injEq] at h
        obtain ⟨rfl, rfl, rfl, rfl, rfl, rfl, _⟩ := h
        exact ⟨by omega, c1, hc, rfl, rfl, rfl, rfl, rfl, rfl⟩
      · exfalso
        rw [if_neg d0] at h
        split at h
        · simp only [Option.some.injEq, Prod.mk.injEq] at h
          omega
        · split at h
          · simp only [Option.some.injEq, Prod.mk.injEq] at h
            omega
          · simp only [Option.some.injEq, Prod.mk.injEq] at h
            omega
/-- Words that are an operation are the words of its text, and the operation may be. -/
theorem read_back {l : List ByteArray} {k a b rk rn at_ : Int} (h : operation_Read.f l = some (k, a, b, rk, rn, at_, 0)) :
    at_ = 0 ∧ operation_Check.f k a b rk rn = some 0 ∧ isI64 a ∧ isI64 b ∧ isI64 rn ∧ l = textWords (kdOf k) a b rk rn := by
  have z : isI64 0 := by
    show (-9223372036854775808 : Int) ≤ 0 ∧ (0 : Int) ≤ 9223372036854775807
    omega
  unfold operation_Read.f at h
  by_cases hl : l.length = 0
  · rw [if_pos hl] at h
    simp at h
  · rw [if_neg hl] at h
    obtain ⟨⟨n, e0⟩, hk, h⟩ := Option.bind_eq_some_iff.1 h
    by_cases he : e0 = 0
    · subst he
      rw [if_neg (show ¬ (0 : Int) ≠ 0 by decide)] at h
      obtain ⟨R, hR, hE⟩ := Option.bind_eq_some_iff.1 h
      obtain ⟨hin, hw⟩ := kind_word hk
      obtain ⟨h0, hlen, hc, rfl, rfl, rfl, rfl, rfl, rfl⟩ := end_ok hE
      have h3 : (kdOf k).args = 0 ∨ (kdOf k).args = 1 ∨ (kdOf k).args = 2 := by
        unfold kdOf
        rw [if_pos hin]
        exact kinds_args3 _ (kdOf_mem k hin)
      rcases h3 with h3 | h3 | h3
      · have hs : stepsOf (kdOf k).args = [.arrow, .result] := by rw [h3]; rfl
        rw [hs] at hR hlen
        obtain ⟨n1, y1, s1, hR⟩ := run_cons hR h0
        obtain ⟨n2, y2, s2, hR⟩ := run_cons hR h0
        obtain rfl := (Option.some.inj hR).symm
        obtain ⟨q1, rfl⟩ := arrow_back s1
        obtain ⟨t1, t2, t3, q2⟩ := result_back s2
        simp only [List.length_cons, List.length_nil] at hlen
        have hl3 : l.length = 3 := by omega
        refine ⟨rfl, hc, by rw [t1]; exact z, by rw [t2]; exact z, t3, ?_⟩
        rw [list3 l hl3]
        unfold textWords
        rw [if_pos h3, hw, q2]
        have q1' : rdOf ByteArray.empty l 1 = ⟨#[45, 62]⟩ := q1
        rw [q1']
        rfl
      · have hs : stepsOf (kdOf k).args = [.first, .arrow, .result] := by rw [h3]; rfl
        rw [hs] at hR hlen
        obtain ⟨n1, y1, s1, hR⟩ := run_cons hR h0
        obtain ⟨n2, y2, s2, hR⟩ := run_cons hR h0
        obtain ⟨n3, y3, s3, hR⟩ := run_cons hR h0
        obtain rfl := (Option.some.inj hR).symm
        obtain ⟨u1, u2, u3⟩ := first_back s1
        obtain ⟨q1, rfl⟩ := arrow_back s2
        obtain ⟨t1, t2, t3, q2⟩ := result_back s3
        simp only [List.length_cons, List.length_nil] at hlen
        have hl4 : l.length = 4 := by omega
        refine ⟨rfl, hc, by rw [t1]; exact u1, by rw [t2, u3]; exact z, t3, ?_⟩
        rw [list4 l hl4]
        unfold textWords
        rw [if_neg (by omega), if_pos h3, hw, q2, t1, u2]
        have q1' : rdOf ByteArray.empty l 2 = ⟨#[45, 62]⟩ := q1
        rw [q1']
        rfl
      · have hs : stepsOf (kdOf k).args = [.first, .second, .arrow, .result] := by rw [h3]; rfl
        rw [hs] at hR hlen
        obtain ⟨n1, y1, s1, hR⟩ := run_cons hR h0
        obtain ⟨n2, y2, s2, hR⟩ := run_cons hR h0
        obtain ⟨n3, y3, s3, hR⟩ := run_cons hR h0
        obtain ⟨n4, y4, s4, hR⟩ := run_cons hR h0
        obtain rfl := (Option.some.inj hR).symm
        obtain ⟨u1, u2, u3⟩ := first_back s1
        obtain ⟨v1, v2, v3, v4⟩ := second_back s2
        obtain ⟨q1, rfl⟩ := arrow_back s3
        obtain ⟨t1, t2, t3, q2⟩ := result_back s4
        simp only [List.length_cons, List.length_nil] at hlen
        have hl5 : l.length = 5 := by omega
        refine ⟨rfl, hc, by rw [t1, v3]; exact u1, by rw [t2]; exact v1, t3, ?_⟩
        rw [list5 l hl5]
        unfold textWords
        rw [if_neg (by omega), if_neg (by omega), hw, q2, t1, t2, v3, u2, v2]
        have q1' : rdOf ByteArray.empty l 3 = ⟨#[45, 62]⟩ := q1
        rw [q1']
        rfl
    · rw [if_pos he] at h
      simp only [Option.some.injEq, Prod.mk.injEq] at h
      exact absurd h.2.2.2.2.2.2 he
/-! ### The words make a line -/

theorem whole_total (s : ByteArray) : ∃ r, wholeF s = some r := by
  unfold wholeF
  rcases get_cases s with ⟨_, h1⟩ | ⟨_, i', _, _, h1⟩ | ⟨_, _, _, h1⟩
  all_goals
    rw [h1]
    exact ⟨_, rfl⟩
theorem step_total (st : StepK) (s : ByteArray) (x : Int × Int × Int × Int) : ∃ r, stepF st s x = some r := by
  obtain ⟨r, h⟩ := whole_total s
  cases st with
  | first =>
    unfold stepF
    rw [h]
    exact ⟨_, rfl⟩
  | second =>
    unfold stepF
    rw [h]
    exact ⟨_, rfl⟩
  | arrow => exact ⟨_, rfl⟩
  | result =>
    unfold stepF
    rw [h]
    simp only
    split
    · exact ⟨_, rfl⟩
    · split
      · exact ⟨_, rfl⟩
      · exact ⟨_, rfl⟩
/-- Where reading stops is among the words. -/
theorem run_total (l : List ByteArray) : ∀ (ss : List StepK) (i : Nat) (x : Int × Int × Int × Int), i < l.length → ∃ r, runSteps l ss i x = some r ∧ r.2.1 ≤ l.length ∧ (r.2.2 = 0 → i + ss.length < l.length)
  | [], i, x, h => ⟨_, rfl, by show i ≤ l.length; omega, fun _ => by simpa using h⟩
  | s :: ss, i, x, h => by
    unfold runSteps
    by_cases c : i + 1 = l.length
    · rw [if_pos c]
      exact ⟨_, rfl, by show i + 1 ≤ l.length; omega, fun h => by cases h⟩
    · rw [if_neg c]
      obtain ⟨r, h'⟩ := step_total s (rdOf ByteArray.empty l ((i : Int) + 1)) x
      rw [h', Option.bind_some]
      by_cases d : r.2 = 0
      · rw [if_pos d]
        obtain ⟨q, h1, h2, h3⟩ := run_total l ss (i + 1) r.1 (by omega)
        exact ⟨q, h1, h2, fun h => by have := h3 h; simp only [List.length_cons]; omega⟩
      · rw [if_neg d]
        exact ⟨_, rfl, by show i + 1 ≤ l.length; omega, fun h => absurd h d⟩
/-- What Read tells of any words: an operation; or none, and a place among them. -/
theorem read_told (l : List ByteArray) : ∃ k a b rk rn at_ e : Int, operation_Read.f l = some (k, a, b, rk, rn, at_, e) ∧ (e = 0 ∨ (¬ e = 0 ∧ k = 0 ∧ a = 0 ∧ b = 0 ∧ rk = 0 ∧ rn = 0 ∧ 0 ≤ at_ ∧ at_ ≤ (l.length : Int))) := by
  unfold operation_Read.f
  by_cases hl : l.length = 0
  · rw [if_pos hl]
    exact ⟨_, _, _, _, _, _, _, rfl, .inr ⟨by decide, rfl, rfl, rfl, rfl, rfl, by omega, by omega⟩⟩
  · rw [if_neg hl]
    obtain ⟨ke, hk⟩ : ∃ t, operation_Kind.f (rdOf ByteArray.empty l 0) = some t := by
      unfold operation_Kind.f
      exact ⟨_, rfl⟩
    rw [hk, Option.bind_some]
    by_cases he : ke.2 ≠ 0
    · rw [if_pos he]
      exact ⟨_, _, _, _, _, _, _, rfl, .inr ⟨he, rfl, rfl, rfl, rfl, rfl, by omega, by omega⟩⟩
    · rw [if_neg he]
      obtain ⟨R, hR, h1, h2⟩ := run_total l (stepsOf (kdOf ke.1).args) 0 (0, 0, 0, 0) (by omega)
      rw [hR, Option.bind_some]
      unfold endRead
      by_cases c0 : R.2.2 ≠ 0
      · rw [if_pos c0]
        exact ⟨_, _, _, _, _, _, _, rfl, .inr ⟨c0, rfl, rfl, rfl, rfl, rfl, by omega, by omega⟩⟩
      · rw [if_neg c0]
        have h3 := h2 (by omega)
        have h4 : 2 ≤ (stepsOf (kdOf ke.1).args).length := by
          unfold stepsOf
          split
          · decide
          · split <;> decide
        by_cases c1 : (stepsOf (kdOf ke.1).args).length + 1 < l.length
        · rw [if_pos c1]
          exact ⟨_, _, _, _, _, _, _, rfl, .inr ⟨by decide, rfl, rfl, rfl, rfl, rfl, by omega, by omega⟩⟩
        · rw [if_neg c1]
          obtain ⟨c, hc⟩ : ∃ e, operation_Check.f ke.1 R.1.1 R.1.2.1 R.1.2.2.1 R.1.2.2.2 = some e := by
            unfold operation_Check.f
            exact ⟨_, rfl⟩
          rw [hc, Option.bind_some]
          by_cases d0 : c = 0
          · rw [if_pos d0]
            exact ⟨_, _, _, _, _, _, _, rfl, .inl rfl⟩
          · rw [if_neg d0]
            split
            · exact ⟨_, _, _, _, _, _, _, rfl, .inr ⟨d0, rfl, rfl, rfl, rfl, rfl, by omega, by omega⟩⟩
            · split
              · exact ⟨_, _, _, _, _, _, _, rfl, .inr ⟨d0, rfl, rfl, rfl, rfl, rfl, by omega, by omega⟩⟩
              · exact ⟨_, _, _, _, _, _, _, rfl, .inr ⟨d0, rfl, rfl, rfl, rfl, rfl, by omega, by omega⟩⟩
end Go.Proofs.YtkjnbfjbdlcehaaGreatDoor.P.Z4

/- What is told of an operation as text: its words are plain, and are read as it was; one word more or less is not. Plain law. -/
namespace Go.Proofs.YtkjnbfjbdlcehaaGreatDoor.Pure
open Go.RowKit Go.Proofs.YtkjnbfjbdlcehaaGreatDoor.P Go.Proofs.YtkjnbfjbdlcehaaGreatDoorW.PrintWords Go.Proofs.YtkjnbfjbdlcehaaGreatDoorW.PrintLast
set_option linter.unusedVariables false
set_option linter.unusedSimpArgs false
theorem cases15k (k : Int) (h : 1 ≤ k ∧ k ≤ 15) : k = 1 ∨ k = 2 ∨ k = 3 ∨ k = 4 ∨ k = 5 ∨ k = 6 ∨ k = 7 ∨ k = 8 ∨ k = 9 ∨ k = 10 ∨ k = 11 ∨ k = 12 ∨ k = 13 ∨ k = 14 ∨ k = 15 := by omega
theorem kind_of (k : Int) (h : 1 ≤ k ∧ k ≤ 15) : operation_Kind.f (kdOf k).word = some (k, 0) := by
  rcases cases15k k h with rfl | rfl | rfl | rfl | rfl | rfl | rfl | rfl | rfl | rfl | rfl | rfl | rfl | rfl | rfl <;> kernel_rfl
theorem word_good (k : Int) (h : 1 ≤ k ∧ k ≤ 15) : goodW (kdOf k).word = true ∧ (kdOf k).word.size ≤ 8 ∧ bt (kdOf k).word 0 ≠ 35 := by
  rcases cases15k k h with rfl | rfl | rfl | rfl | rfl | rfl | rfl | rfl | rfl | rfl | rfl | rfl | rfl | rfl | rfl <;> exact ⟨by kernel_rfl, by decide +kernel, by decide +kernel⟩
theorem args_of (k : Int) (h : 1 ≤ k ∧ k ≤ 15) : (kdOf k).args = 0 ∨ (kdOf k).args = 1 ∨ (kdOf k).args = 2 := by
  rcases cases15k k h with rfl | rfl | rfl | rfl | rfl | rfl | rfl | rfl | rfl | rfl | rfl | rfl | rfl | rfl | rfl <;> decide +kernel
theorem whole_put (n : Int) (h : isI64 n) : wholeF (putStr n) = some (n, 0) := by
  unfold wholeF
  rw [show number_Get.f (putStr n) = some (n, 0, 0) from get_put n h]
  rfl
theorem put_not (n : Int) (h : isI64 n) (s : ByteArray) (hs : ∀ x, number_Get.f s ≠ some (x, 0, 0)) : (putStr n).toList ≠ s.toList := by
  intro e
  have e2 : putStr n = s := by
    rw [ByteArray.toList_eq, ByteArray.toList_eq] at e
    exact b_ext e
  exact hs n (e2 ▸ get_put n h)
theorem get_ok (x : Int) : number_Get.f ⟨#[111, 107]⟩ ≠ some (x, 0, 0) := by
  have h : (number_Get.f ⟨#[111, 107]⟩).map (fun r => r.2.1) = some 5 := by kernel_rfl
  intro e
  rw [e] at h
  simp at h
theorem get_none (x : Int) : number_Get.f ⟨#[110, 111, 110, 101]⟩ ≠ some (x, 0, 0) := by
  have h : (number_Get.f ⟨#[110, 111, 110, 101]⟩).map (fun r => r.2.1) = some 5 := by kernel_rfl
  intro e
  rw [e] at h
  simp at h
theorem put_good (a : Int) (ha : isI64 a) : goodW (putStr a) = true := by
  have hz : (putStr a).size ≠ 0 := by
    intro e
    have h1 := get_put a ha
    have h2 : putStr a = ⟨#[]⟩ := b_ext (by
      have h3 : (putStr a).data.toList.length = 0 := e
      rw [List.length_eq_zero_iff.1 h3])
    have h4 : number_Get.f (putStr a) = some (a, 0, 0) := h1
    rw [h2] at h4
    have h : (number_Get.f ⟨#[]⟩).map (fun r => r.2.1) = some 5 := by kernel_rfl
    rw [h4] at h
    simp at h
  unfold goodW plainW
  rw [decide_eq_true hz, Bool.true_and, List.all_eq_true]
  intro c hc
  simp only [Bool.and_eq_true, decide_eq_true_eq]
  unfold putStr at hc
  rw [put_data] at hc
  rcases List.mem_append.1 hc with h | h
  · split at h
    · simp at h
      rw [h]
      decide
    · simp at h
  · have hp := (plain_digs 20 a.natAbs (by unfold isI64 at ha; omega) (by decide)).1.2.1 c h
    unfold isDig at hp
    omega
theorem told_good (rk rn : Int) (hn : isI64 rn) : goodW (toldB rk rn) = true := by
  unfold toldB
  split
  · decide +kernel
  · split
    · decide +kernel
    · exact put_good rn hn
theorem words_good (k a b rk rn : Int) (hk : 1 ≤ k ∧ k ≤ 15) (ha : isI64 a) (hb : isI64 b) (hn : isI64 rn) : ∀ w ∈ textWords (kdOf k) a b rk rn, goodW w = true := by
  intro w hw
  unfold textWords at hw
  rcases List.mem_cons.1 hw with rfl | hw
  · exact (word_good k hk).1
  · rcases List.mem_append.1 hw with h | h
    · split at h
      · simp at h
      · split at h
        · simp only [List.mem_singleton] at h
          rw [h]
          exact put_good a ha
        · simp only [List.mem_cons, List.not_mem_nil, or_false] at h
          rcases h with rfl | rfl
          · exact put_good a ha
          · exact put_good b hb
    · simp only [List.mem_cons, List.not_mem_nil, or_false] at h
      rcases h with rfl | rfl
      · decide +kernel
      · exact told_good rk rn hn
theorem ret_cases {x : Kd1} {rk rn : Int} (h : retP x rk rn = true) : (rk = 0 ∧ rn = 0) ∨ (rk = 1 ∧ rn = 0) ∨ rk = 2 := by
  unfold retP at h
  by_cases c : rk = 0 ∧ rn = 0
  · exact .inl c
  · rw [if_neg c] at h
    by_cases d : rk = 1 ∧ rn = 0
    · exact .inr (.inl d)
    · rw [if_neg d] at h
      simp only [Bool.and_eq_true, beq_iff_eq] at h
      exact .inr (.inr h.1)
theorem step_arrow (x : Int × Int × Int × Int) : stepF .arrow ⟨#[45, 62]⟩ x = some (x, 0) := by
  unfold stepF
  rw [ByteArray.toList_eq]
  rfl
theorem step_first (a : Int) (ha : isI64 a) (x : Int × Int × Int × Int) : stepF .first (putStr a) x = some ((a, x.2.1, x.2.2.1, x.2.2.2), 0) := by
  unfold stepF
  rw [whole_put a ha]
  rfl
theorem step_second (b : Int) (hb : isI64 b) (x : Int × Int × Int × Int) : stepF .second (putStr b) x = some ((x.1, b, x.2.2.1, x.2.2.2), 0) := by
  unfold stepF
  rw [whole_put b hb]
  rfl
theorem step_told (rk rn : Int) (hn : isI64 rn) (hr : (rk = 0 ∧ rn = 0) ∨ (rk = 1 ∧ rn = 0) ∨ rk = 2) (x : Int × Int × Int × Int) : stepF .result (toldB rk rn) x = some ((x.1, x.2.1, rk, rn), 0) := by
  unfold stepF toldB
  rcases hr with ⟨rfl, rfl⟩ | ⟨rfl, rfl⟩ | rfl
  · rw [if_pos rfl]
    simp only
    rw [if_pos (by rw [ByteArray.toList_eq])]
  · rw [if_neg (by decide), if_pos rfl]
    simp only
    rw [if_neg (by rw [ByteArray.toList_eq]; decide), if_pos (by rw [ByteArray.toList_eq])]
  · rw [if_neg (by decide), if_neg (by decide)]
    have h1 := put_not rn hn ⟨#[111, 107]⟩ get_ok
    have h2 := put_not rn hn ⟨#[110, 111, 110, 101]⟩ get_none
    simp only [ByteArray.toList_eq] at h1 h2 ⊢
    rw [if_neg h1, if_neg h2, whole_put rn hn]
    rfl
theorem run_step {l : List ByteArray} {s : StepK} {ss : List StepK} {i : Nat} {x y : Int × Int × Int × Int} {w : ByteArray} (hi : ¬ i + 1 = l.length) (hw : l[i + 1]? = some w) (hs : stepF s w x = some (y, 0)) : runSteps l (s :: ss) i x = runSteps l ss (i + 1) y := by
  have hr : rdOf ByteArray.empty l ((i : Int) + 1) = w := by
    unfold rdOf
    rw [show ((i : Int) + 1).toNat = i + 1 by omega, List.getD_eq_getElem?_getD, hw]
    rfl
  rw [runSteps, if_neg hi, hr, hs, Option.bind_some, if_pos rfl]
theorem run_end {l : List ByteArray} {s : StepK} {ss : List StepK} {i : Nat} {x : Int × Int × Int × Int} (hi : i + 1 = l.length) : runSteps l (s :: ss) i x = some (x, i + 1, 5) := by
  rw [runSteps, if_pos hi]
/-- All steps over the words and whatever stands behind them. -/
theorem run_words (k a b rk rn : Int) (hk : 1 ≤ k ∧ k ≤ 15) (ha : isI64 a) (hb : isI64 b) (hn : isI64 rn) (hA : argsP (kdOf k) a b = true) (hR : retP (kdOf k) rk rn = true) (t : List ByteArray) :
    ∃ m i, (stepsOf (kdOf k).args).length = m ∧ (textWords (kdOf k) a b rk rn).length = m + 1 ∧ runSteps (textWords (kdOf k) a b rk rn ++ t) (stepsOf (kdOf k).args) 0 (0, 0, 0, 0) = some ((a, b, rk, rn), i, 0) := by
  have hr := ret_cases hR
  unfold argsP at hA
  simp only [Bool.and_eq_true, Bool.or_eq_true, decide_eq_true_eq, beq_iff_eq] at hA
  obtain ⟨⟨hA1, hA2⟩, _⟩ := hA
  rcases args_of k hk with h | h | h
  · rw [h] at hA1 hA2 ⊢
    obtain rfl : a = 0 := by omega
    obtain rfl : b = 0 := by omega
    refine ⟨2, 2, rfl, by unfold textWords; rw [h]; rfl, ?_⟩
    have hl : textWords (kdOf k) 0 0 rk rn ++ t = (kdOf k).word :: ⟨#[45, 62]⟩ :: toldB rk rn :: t := by unfold textWords; rw [h]; rfl
    rw [hl, show stepsOf 0 = [.arrow, .result] from rfl, run_step (by simp) rfl (step_arrow _), run_step (by simp) rfl (step_told rk rn hn hr _)]
    rfl
  · rw [h] at hA1 hA2 ⊢
    obtain rfl : b = 0 := by omega
    refine ⟨3, 3, rfl, by unfold textWords; rw [h]; rfl, ?_⟩
    have hl : textWords (kdOf k) a 0 rk rn ++ t = (kdOf k).word :: putStr a :: ⟨#[45, 62]⟩ :: toldB rk rn :: t := by unfold textWords; rw [h]; rfl
    rw [hl, show stepsOf 1 = [.first, .arrow, .result] from rfl, run_step (by simp) rfl (step_first a ha _), run_step (by simp) rfl (step_arrow _), run_step (by simp) rfl (step_told rk rn hn hr _)]
    rfl
  · rw [h]
    refine ⟨4, 4, rfl, by unfold textWords; rw [h]; rfl, ?_⟩
    have hl : textWords (kdOf k) a b rk rn ++ t = (kdOf k).word :: putStr a :: putStr b :: ⟨#[45, 62]⟩ :: toldB rk rn :: t := by unfold textWords; rw [h]; rfl
    rw [hl, show stepsOf 2 = [.first, .second, .arrow, .result] from rfl, run_step (by simp) rfl (step_first a ha _), run_step (by simp) rfl (step_second b hb _), run_step (by simp) rfl (step_arrow _), run_step (by simp) rfl (step_told rk rn hn hr _)]
    rfl
theorem run_less (k a b rk rn : Int) (hk : 1 ≤ k ∧ k ≤ 15) (ha : isI64 a) (hb : isI64 b) :
    ∃ y i, runSteps (textWords (kdOf k) a b rk rn).dropLast (stepsOf (kdOf k).args) 0 (0, 0, 0, 0) = some (y, i, 5) := by
  rcases args_of k hk with h | h | h
  · have hl : (textWords (kdOf k) a b rk rn).dropLast = [(kdOf k).word, ⟨#[45, 62]⟩] := by unfold textWords; rw [h]; rfl
    rw [h, hl, show stepsOf 0 = [.arrow, .result] from rfl, run_step (by simp) rfl (step_arrow _), run_end (by simp)]
    exact ⟨_, _, rfl⟩
  · have hl : (textWords (kdOf k) a b rk rn).dropLast = [(kdOf k).word, putStr a, ⟨#[45, 62]⟩] := by unfold textWords; rw [h]; rfl
    rw [h, hl, show stepsOf 1 = [.first, .arrow, .result] from rfl, run_step (by simp) rfl (step_first a ha _), run_step (by simp) rfl (step_arrow _), run_end (by simp)]
    exact ⟨_, _, rfl⟩
  · have hl : (textWords (kdOf k) a b rk rn).dropLast = [(kdOf k).word, putStr a, putStr b, ⟨#[45, 62]⟩] := by unfold textWords; rw [h]; rfl
    rw [h, hl, show stepsOf 2 = [.first, .second, .arrow, .result] from rfl, run_step (by simp) rfl (step_first a ha _), run_step (by simp) rfl (step_second b hb _), run_step (by simp) rfl (step_arrow _), run_end (by simp)]
    exact ⟨_, _, rfl⟩
theorem head_words (k a b rk rn : Int) (t : List ByteArray) : (textWords (kdOf k) a b rk rn ++ t).length ≠ 0 ∧ rdOf ByteArray.empty (textWords (kdOf k) a b rk rn ++ t) 0 = (kdOf k).word := by
  unfold textWords
  exact ⟨by simp, rfl⟩
theorem check_ok4 {k a b rk rn : Int} (h : operation_Check.f k a b rk rn = some 0) : (1 ≤ k ∧ k ≤ 15) ∧ argsP (kdOf k) a b = true ∧ retP (kdOf k) rk rn = true := by
  unfold operation_Check.f at h
  have h := Option.some.inj h
  by_cases c : 1 ≤ k ∧ k ≤ 15
  · rw [if_pos c] at h
    by_cases d : argsP (kdOf k) a b = true
    · rw [if_pos d] at h
      by_cases e : retP (kdOf k) rk rn = true
      · exact ⟨c, d, e⟩
      · rw [if_neg e] at h
        omega
    · rw [if_neg d] at h
      omega
  · rw [if_neg c] at h
    omega
theorem read_self (k a b rk rn : Int) (ha : isI64 a) (hb : isI64 b) (hn : isI64 rn) (hc : operation_Check.f k a b rk rn = some 0) : operation_Read.f (textWords (kdOf k) a b rk rn) = some (k, a, b, rk, rn, 0, 0) := by
  obtain ⟨hk, hA, hR⟩ := check_ok4 hc
  obtain ⟨m, i, hm, hl, hr⟩ := run_words k a b rk rn hk ha hb hn hA hR []
  obtain ⟨h1, h2⟩ := head_words k a b rk rn []
  rw [List.append_nil] at hr h1 h2
  unfold operation_Read.f
  rw [if_neg h1, h2, kind_of k hk, Option.bind_some, if_neg (by simp), hr, Option.bind_some, hm]
  unfold endRead
  rw [if_neg (by simp), if_neg (by omega), hc, Option.bind_some, if_pos rfl]
theorem read_more (k a b rk rn : Int) (ha : isI64 a) (hb : isI64 b) (hn : isI64 rn) (hc : operation_Check.f k a b rk rn = some 0) (w : ByteArray) : ∃ y, operation_Read.f (textWords (kdOf k) a b rk rn ++ [w]) = some (0, 0, 0, 0, 0, y, 5) := by
  obtain ⟨hk, hA, hR⟩ := check_ok4 hc
  obtain ⟨m, i, hm, hl, hr⟩ := run_words k a b rk rn hk ha hb hn hA hR [w]
  obtain ⟨h1, h2⟩ := head_words k a b rk rn [w]
  unfold operation_Read.f
  rw [if_neg h1, h2, kind_of k hk, Option.bind_some, if_neg (by simp), hr, Option.bind_some, hm]
  unfold endRead
  rw [if_neg (by simp), if_pos (by rw [List.length_append, hl]; simp)]
  exact ⟨_, rfl⟩
theorem read_less (k a b rk rn : Int) (ha : isI64 a) (hb : isI64 b) (hn : isI64 rn) (hc : operation_Check.f k a b rk rn = some 0) : ∃ y, operation_Read.f (textWords (kdOf k) a b rk rn).dropLast = some (0, 0, 0, 0, 0, y, 5) := by
  obtain ⟨hk, hA, hR⟩ := check_ok4 hc
  obtain ⟨y, i, hr⟩ := run_less k a b rk rn hk ha hb
  have h1 : (textWords (kdOf k) a b rk rn).dropLast.length ≠ 0 := by
    unfold textWords
    simp
  have h2 : rdOf ByteArray.empty (textWords (kdOf k) a b rk rn).dropLast 0 = (kdOf k).word := by
    unfold textWords
    rcases args_of k hk with h | h | h <;> rw [h] <;> rfl
  unfold operation_Read.f
  rw [if_neg h1, h2, kind_of k hk, Option.bind_some, if_neg (by simp), hr, Option.bind_some]
  unfold endRead
  rw [if_pos (by simp)]
  exact ⟨_, rfl⟩
theorem words_size (k a b rk rn : Int) (hk : 1 ≤ k ∧ k ≤ 15) : (joinB (textWords (kdOf k) a b rk rn)).size ≤ 200 ∧ (textWords (kdOf k) a b rk rn).length ≤ 5 ∧ textWords (kdOf k) a b rk rn ≠ [] := by
  have hne : textWords (kdOf k) a b rk rn ≠ [] := by unfold textWords; simp
  have h := join_size _ hne
  have hw := (word_good k hk).2.1
  have p1 := putStr_size a
  have p2 := putStr_size b
  have p3 : (toldB rk rn).size ≤ 21 := by
    unfold toldB
    split
    · decide
    · split
      · decide
      · exact putStr_size rn
  have p4 : (⟨#[45, 62]⟩ : ByteArray).size = 2 := rfl
  unfold textWords at h hne ⊢
  rcases args_of k hk with c | c | c <;> rw [c] at h ⊢ <;> simp [sumS] at h ⊢ <;> omega
/-- The words of the text of an operation that may be. -/
theorem line_words (k a b rk rn : Int) (ha : isI64 a) (hb : isI64 b) (hn : isI64 rn) (hc : operation_Check.f k a b rk rn = some 0) :
    token_Lines.f (bytesOf (joinB (textWords (kdOf k) a b rk rn))) = some ([⟨0, wordsAt 0 (textWords (kdOf k) a b rk rn)⟩], 0, 0) := by
  obtain ⟨hk, hA, hR⟩ := check_ok4 hc
  obtain ⟨h1, h2, h3⟩ := words_size k a b rk rn hk
  refine one_line _ h3 (words_good k a b rk rn hk ha hb hn) ?_ (by omega)
  unfold textWords
  rw [joinB_first _ _ (good_size (word_good k hk).1)]
  exact (word_good k hk).2.2
end Go.Proofs.YtkjnbfjbdlcehaaGreatDoor.Pure
