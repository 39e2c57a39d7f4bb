/- Plain facts for GrammarOne and GrammarTwo: what Parse tells of a text, and of two, one behind the other. -/
import Derived.Test.YtkjnbfjbdlcehaaGreatDoorM12Pr
import Derived.Test.YtkjnbfjbdlcehaaGreatDoorESame12
namespace Go.Proofs.YtkjnbfjbdlcehaaGreatDoor.P.Z12
open Go.RowKit Go.Proofs.YtkjnbfjbdlcehaaGreatDoor.P Go.Proofs.YtkjnbfjbdlcehaaGreatDoor.P.Z2 Go.Proofs.YtkjnbfjbdlcehaaGreatDoor.Pure Go.Proofs.YtkjnbfjbdlcehaaGreatDoorW.PrintWords Go.Proofs.YtkjnbfjbdlcehaaGreatDoorW.PrintLast Go.Proofs.YtkjnbfjbdlcehaaGreatDoorW.PrintMore
set_option linter.unusedVariables false
set_option linter.unusedSimpArgs false
theorem reads_all : ∀ {ws : List (List ByteArray)} {es : List Ev}, Reads ws es → (∀ x ∈ es, ckE x = some 0 ∧ NumE x) ∧ (textU es).length = (ws.map (fun w => (joinB w).size + 1)).sum ∧ es.length = ws.length
  | [], [], _ => ⟨fun x hx => (by cases hx), rfl, rfl⟩
  | w :: ws, e :: es, ⟨⟨h1, h2, h3⟩, h⟩ => by
    obtain ⟨i1, i2, i3⟩ := reads_all h
    refine ⟨fun x hx => ?_, ?_, by rw [List.length_cons, List.length_cons, i3]⟩
    · rcases List.mem_cons.1 hx with rfl | hx
      · exact ⟨h2, h3⟩
      · exact i1 x hx
    · rw [textU_cons, List.length_append, List.length_append, show (joinB (wordsE e)).data.toList.length = (joinB (wordsE e)).size from rfl, List.length_singleton, i2, h1, List.map_cons, List.sum_cons]
  | [], _ :: _, h => h.elim
  | _ :: _, [], h => h.elim
theorem len_text (es : List Ev) : es.length ≤ (textU es).length := by
  induction es with
  | nil => exact Nat.zero_le _
  | cons x es ih => rw [textU_cons, List.length_append, List.length_append, List.length_cons, List.length_singleton]; omega
theorem ck_len {x : Ev} (h : ckE x = some 0) : x.f4.f2.length ≤ 1000 := by
  obtain ⟨_, _, h1, _, _, h5⟩ := ck_ok h
  by_cases c : x.f0 = 1
  · exact (h5 c).2
  · rw [h1 c]
    exact Nat.zero_le _
theorem same_ck (es : List Ev) (hl : es.length ≤ 100000) (h : ∀ x ∈ es, ckE x = some 0) : armisticekit_SameEvents.f es es = some true := by
  unfold armisticekit_SameEvents.f
  rw [if_pos]
  simp only [Bool.and_eq_true, decide_eq_true_eq, List.all_eq_true]
  exact ⟨by omega, fun x hx => by have := ck_len (h x hx); omega, eqEvents_refl es⟩
theorem one_facts (l : List Int) (hu : isU8 l = true) (hl : l.length ≤ 1500) :
    (∃ es s, grammar_Parse.f l = some (es, 0, 0) ∧ grammar_Print.f es = some (s, 0) ∧ grammar_Parse.f (bytesOf s) = some (es, 0, 0) ∧ armisticekit_SameEvents.f es es = some true ∧ s.size ≤ l.length + 1 ∧ es.length ≤ 1501) ∨
    (∃ E P : Int, grammar_Parse.f l = some ([], E, P) ∧ E ≠ 0 ∧ 0 ≤ P ∧ P ≤ l.length) := by
  rcases parse_spec l hu (by omega) with ⟨ws, es, hp, _, _, _, hr, _, hs⟩ | ⟨E, P, hp, h1, h2, h3, _⟩
  · left
    obtain ⟨h1, h2, h3⟩ := reads_all hr
    have h4 := len_text es
    exact ⟨es, ⟨(textU es).toArray⟩, hp, print_f es h1 (by omega), parse_print es h1 (by omega), same_ck es (by omega) (fun x hx => (h1 x hx).1), by show (textU es).length ≤ _; omega, by omega⟩
  · exact .inr ⟨E, P, hp, h1, h2, h3⟩
end Go.Proofs.YtkjnbfjbdlcehaaGreatDoor.P.Z12
