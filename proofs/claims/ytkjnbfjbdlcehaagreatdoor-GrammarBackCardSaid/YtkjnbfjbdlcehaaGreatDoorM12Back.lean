/- Plain facts for GrammarBack: which lists are gone through, and what Print, Check and Parse tell of one. -/
import Derived.Test.YtkjnbfjbdlcehaaGreatDoorM12Pr
import Derived.Test.YtkjnbfjbdlcehaaGreatDoorPx2
namespace Go.Proofs.YtkjnbfjbdlcehaaGreatDoor.P.Z12
open Go.RowKit Go.Proofs.YtkjnbfjbdlcehaaGreatDoor.P Go.Proofs.YtkjnbfjbdlcehaaGreatDoor.P.Z2 Go.Proofs.YtkjnbfjbdlcehaaGreatDoor.Pure Go.Proofs.YtkjnbfjbdlcehaaGreatDoorW.PrintWords Go.Proofs.YtkjnbfjbdlcehaaGreatDoorW.PrintLast Go.Proofs.YtkjnbfjbdlcehaaGreatDoorW.PrintMore
set_option linter.unusedVariables false
set_option linter.unusedSimpArgs false
def smallE (x : Ev) : Prop := x.f1.size ≤ 60 ∧ x.f2.size ≤ 60 ∧ x.f4.f2.length ≤ 30
theorem rd_ev (l : List Ev) (i : Nat) (h : i < l.length) : rd_T38 l (i : Int) = l[i] := by simp [rd_T38, List.getD, h]
theorem long_l0 (l : List Ev) : ∀ (d i k : Nat), i + d = 61 → i ≤ l.length → 2 * d + 2 ≤ k → ∃ b, armisticekit_LongEvents.l0 k l (i : Int) = some b ∧ (b = false → l.length ≤ 60 ∧ ∀ j x, i ≤ j → l[j]? = some x → smallE x)
  | 0, i, k, hi, hl, hk => by
    obtain ⟨k, rfl⟩ : ∃ m, k = m + 1 + 1 := ⟨k - 2, by omega⟩
    rw [armisticekit_LongEvents.l0]
    have hd : decide ((i : Int) < 61) = false := decide_eq_false (by omega)
    by_cases c : (i : Int) < (l.length : Int)
    · rw [if_pos c, hd, armisticekit_LongEvents.j1, if_neg (by decide)]
      exact ⟨_, rfl, fun h => by rw [decide_eq_false_iff_not] at h; omega⟩
    · rw [if_neg c, armisticekit_LongEvents.j1, if_neg (by decide)]
      exact ⟨_, rfl, fun h => by rw [decide_eq_false_iff_not] at h; omega⟩
  | d + 1, i, k, hi, hl, hk => by
    obtain ⟨k, rfl⟩ : ∃ m, k = m + 1 + 1 := ⟨k - 2, by omega⟩
    rw [armisticekit_LongEvents.l0]
    have hd : decide ((i : Int) < 61) = true := decide_eq_true (by omega)
    by_cases c : (i : Int) < (l.length : Int)
    · have hil : i < l.length := by omega
      rw [if_pos c, hd, armisticekit_LongEvents.j1, if_pos rfl, if_pos (by omega), if_pos c, rd_ev l i hil]
      by_cases c1 : ((l[i].f1).size : Int) > 60
      · rw [if_pos c1]
        exact ⟨true, rfl, fun h => by cases h⟩
      · rw [if_neg c1]
        by_cases c2 : ((l[i].f2).size : Int) > 60
        · rw [if_pos c2]
          exact ⟨true, rfl, fun h => by cases h⟩
        · rw [if_neg c2]
          by_cases c3 : ((l[i].f4.f2).length : Int) > 30
          · rw [if_pos c3]
            exact ⟨true, rfl, fun h => by cases h⟩
          · rw [if_neg c3, show wrap64 ((i : Int) + 1) = ((i + 1 : Nat) : Int) by unfold wrap64; omega]
            obtain ⟨b, h1, h2⟩ := long_l0 l d (i + 1) k (by omega) (by omega) (by omega)
            refine ⟨b, h1, fun hb => ⟨(h2 hb).1, fun j x hj hx => ?_⟩⟩
            rcases Nat.lt_or_ge i j with h | h
            · exact (h2 hb).2 j x h hx
            · obtain rfl : j = i := by omega
              rw [List.getElem?_eq_getElem hil] at hx
              obtain rfl := Option.some.inj hx
              exact ⟨by omega, by omega, by omega⟩
    · rw [if_neg c, armisticekit_LongEvents.j1, if_neg (by decide)]
      refine ⟨_, rfl, fun h => ?_⟩
      rw [decide_eq_false_iff_not] at h
      refine ⟨by omega, fun j x hj hx => ?_⟩
      have := (List.getElem?_eq_some_iff.1 hx).1
      omega
theorem long_f (l : List Ev) : ∃ b, armisticekit_LongEvents.f 200 l = some b ∧ (b = false → l.length ≤ 60 ∧ ∀ x ∈ l, smallE x) := by
  obtain ⟨b, h1, h2⟩ := long_l0 l 61 0 200 rfl (Nat.zero_le _) (by decide)
  refine ⟨b, h1, fun hb => ⟨(h2 hb).1, fun x hx => ?_⟩⟩
  obtain ⟨j, hj, rfl⟩ := List.getElem_of_mem hx
  exact (h2 hb).2 j _ (Nat.zero_le _) (List.getElem?_eq_getElem hj)
theorem ck_total (x : Ev) (h : smallE x) : ∃ e, ckE x = some e := by
  unfold ckE grammar_Check.f
  rw [if_pos ⟨by have := h.1; omega, by have := h.2.1; omega⟩]
  split
  · split
    · exact ⟨_, rfl⟩
    · split
      · exact ⟨_, rfl⟩
      · split
        · unfold operation_Check.f
          exact ⟨_, rfl⟩
        · split
          · obtain ⟨e, he, _⟩ := Z5.check_total x.f4.f0 x.f4.f1 x.f4.f2 (by have := h.2.2; omega)
            rw [he, Option.bind_some]
            split
            · split <;> exact ⟨_, rfl⟩
            · exact ⟨_, rfl⟩
          · exact ⟨_, rfl⟩
  · exact ⟨_, rfl⟩
theorem line_bad {x : Ev} {e : Int} (h : ckE x = some e) (he : e ≠ 0) : lineE x = some (⟨#[]⟩, e) := by
  unfold ckE at h
  unfold lineE grammar_Line.f
  rw [h, Option.bind_some, if_neg he]
theorem print_bad : ∀ (es : List Ev) (acc : List UInt8), (∀ x ∈ es, NumE x ∧ smallE x) → acc.length + es.length * 30001 ≤ 67108864 → (∃ x ∈ es, ckE x ≠ some 0) →
    ∃ (e : Int) (i : Nat), e ≠ 0 ∧ printG es false acc = some (⟨#[]⟩, e) ∧ (∀ j x, j < i → es[j]? = some x → ckE x = some 0) ∧ ∃ x f, es[i]? = some x ∧ ckE x = some f ∧ f ≠ 0
  | [], _, _, _, ⟨x, hx, _⟩ => by cases hx
  | x :: es, acc, hx, hl, hb => by
    obtain ⟨hn, hs⟩ := hx x List.mem_cons_self
    obtain ⟨e, he⟩ := ck_total x hs
    by_cases c : e = 0
    · subst c
      have hls := (line_size he hn).1
      rw [List.length_cons, Nat.add_mul] at hl
      have hb2 : ∃ y ∈ es, ckE y ≠ some 0 := by
        obtain ⟨y, hy, hyb⟩ := hb
        rcases List.mem_cons.1 hy with rfl | hy
        · exact absurd he hyb
        · exact ⟨y, hy, hyb⟩
      obtain ⟨e2, i, h1, h2, h3, y, f, h4, h5, h6⟩ := print_bad es ((acc ++ (joinB (wordsE x)).data.toList) ++ [10]) (fun y hy => hx y (List.mem_cons_of_mem _ hy)) (by
        rw [List.length_append, List.length_append, show (joinB (wordsE x)).data.toList.length = (joinB (wordsE x)).size from rfl, List.length_singleton]
        omega) hb2
      refine ⟨e2, i + 1, h1, ?_, fun j z hj hz => ?_, y, f, by rw [List.getElem?_cons_succ]; exact h4, h5, h6⟩
      · rw [printG, line_ok he hn, Option.bind_some, if_pos rfl, if_pos (by dsimp only; omega), show (false || decide (65536 < ((joinB (wordsE x)), (0 : Int)).1.size)) = false by simp; omega]
        exact h2
      · cases j with
        | zero =>
          rw [List.getElem?_cons_zero] at hz
          cases hz
          exact he
        | succ j =>
          rw [List.getElem?_cons_succ] at hz
          exact h3 j z (by omega) hz
    · refine ⟨e, 0, c, ?_, fun j z hj => by omega, x, e, rfl, he, c⟩
      rw [printG, line_bad he c, Option.bind_some, if_neg c]
theorem textU_small : ∀ (es : List Ev), (∀ x ∈ es, ckE x = some 0 ∧ NumE x) → (textU es).length ≤ es.length * 30001
  | [], _ => Nat.zero_le _
  | x :: es, h => by
    have h1 := textU_small es (fun y hy => h y (List.mem_cons_of_mem _ hy))
    have h2 := (line_size (h x List.mem_cons_self).1 (h x List.mem_cons_self).2).1
    rw [textU_cons, List.length_append, List.length_append, show (joinB (wordsE x)).data.toList.length = (joinB (wordsE x)).size from rfl, List.length_singleton, List.length_cons, Nat.add_mul]
    omega
/-- Of a list that is gone through: each may be, it is printed, and parsed as it was; or one may not be, and none is printed. -/
theorem back_facts (l : List Ev) (hl : l.length ≤ 60) (hs : ∀ x ∈ l, smallE x) (hn : ∀ x ∈ l, NumE x) :
    ((∀ x ∈ l, ckE x = some 0) ∧ ∃ s, grammar_Print.f l = some (s, 0) ∧ s.size ≤ 2000000 ∧ grammar_Parse.f (bytesOf s) = some (l, 0, 0)) ∨
    ∃ (e : Int) (i : Nat), e ≠ 0 ∧ grammar_Print.f l = some (⟨#[]⟩, e) ∧ (∀ j x, j < i → l[j]? = some x → ckE x = some 0) ∧ ∃ x f, l[i]? = some x ∧ ckE x = some f ∧ f ≠ 0 := by
  by_cases c : ∃ x ∈ l, ckE x ≠ some 0
  · right
    obtain ⟨e, i, h1, h2, h3⟩ := print_bad l [] (fun x hx => ⟨hn x hx, hs x hx⟩) (by rw [List.length_nil]; omega) c
    refine ⟨e, i, h1, ?_, h3⟩
    unfold grammar_Print.f
    rw [if_pos (by omega)]
    exact h2
  · left
    have h : ∀ x ∈ l, ckE x = some 0 := fun x hx => Classical.byContradiction fun h => c ⟨x, hx, h⟩
    have hg : ∀ x ∈ l, ckE x = some 0 ∧ NumE x := fun x hx => ⟨h x hx, hn x hx⟩
    have hlen := textU_small l hg
    refine ⟨h, ⟨(textU l).toArray⟩, print_f l hg (by omega), ?_, parse_print l hg (by omega)⟩
    show (textU l).length ≤ _
    omega
end Go.Proofs.YtkjnbfjbdlcehaaGreatDoor.P.Z12
