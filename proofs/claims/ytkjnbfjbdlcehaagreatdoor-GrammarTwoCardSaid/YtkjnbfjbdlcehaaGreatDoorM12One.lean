/- Plain facts for GrammarOne and GrammarTwo: what Parse tells of a text, and of two, one behind the other. -/
import Derived.Test.YtkjnbfjbdlcehaaGreatDoorM12Pr
import Derived.Test.YtkjnbfjbdlcehaaGreatDoorESame12
namespace Go.Proofs.YtkjnbfjbdlcehaaGreatDoor.P.Z12
open Go.RowKit Go.Proofs.YtkjnbfjbdlcehaaGreatDoor.P Go.Proofs.YtkjnbfjbdlcehaaGreatDoor.P.Z2 Go.Proofs.YtkjnbfjbdlcehaaGreatDoor.Pure Go.Proofs.YtkjnbfjbdlcehaaGreatDoorW.PrintWords Go.Proofs.YtkjnbfjbdlcehaaGreatDoorW.PrintLast Go.Proofs.YtkjnbfjbdlcehaaGreatDoorW.PrintMore
set_option linter.unusedVariables false
set_option linter.unusedSimpArgs false
theorem reads_all : ∀ {ws : List (List ByteArray)} {es : List Ev}, Reads ws es → (∀ x ∈ es, ckE x = some 0 ∧ NumE x) ∧ (textU es).length = (ws.map (fun w => (joinB w).size + 1)).sum ∧ es.length = ws.length
  | [], [], _ => ⟨fun x hx => (by cases hx), rfl, rfl⟩
  | w :: ws, e :: es, ⟨⟨h1, h2, h3⟩, h⟩ => by
    obtain ⟨i1, i2, i3⟩ := reads_all h
    refine ⟨fun x hx => ?_, ?_, by rw [List.length_cons, List.length_cons, i3]⟩
    · rcases List.mem_cons.1 hx with rfl | hx
      · exact ⟨h2, h3⟩
      · exact i1 x hx
    · rw [textU_cons, List.length_append, List.length_append, show (joinB (wordsE e)).data.toList.length = (joinB (wordsE e)).size from rfl, List.length_singleton, i2, h1, List.map_cons, List.sum_cons]
  | [], _ :: _, h => h.elim
  | _ :: _, [], h => h.elim
theorem len_text (es : List Ev) : es.length ≤ (textU es).length := by
  induction es with
  | nil => exact Nat.zero_le _
  | cons x es ih => rw [textU_cons, List.length_append, List.length_append, List.length_cons, List.length_singleton]; omega
theorem ck_len {x : Ev} (h : ckE x = some 0) : x.f4.f2.length ≤ 1000 := by
  obtain ⟨_, _, h1, _, _, h5⟩ := ck_ok h
  by_cases c : x.f0 = 1
  · exact (h5 c).2
  · rw [h1 c]
    exact Nat.zero_le _
theorem same_ck (es : List Ev) (hl : es.length ≤ 100000) (h : ∀ x ∈ es, ckE x = some 0) : armisticekit_SameEvents.f es es = some true := by
  unfold armisticekit_SameEvents.f
  rw [if_pos]
  simp only [Bool.and_eq_true, decide_eq_true_eq, List.all_eq_true]
  exact ⟨by omega, fun x hx => by have := ck_len (h x hx); omega, eqEvents_refl es⟩
theorem one_facts (l : List Int) (hu : isU8 l = true) (hl : l.length ≤ 1500) :
    (∃ es s, grammar_Parse.f l = some (es, 0, 0) ∧ grammar_Print.f es = some (s, 0) ∧ grammar_Parse.f (bytesOf s) = some (es, 0, 0) ∧ armisticekit_SameEvents.f es es = some true ∧ s.size ≤ l.length + 1 ∧ es.length ≤ 1501) ∨
    (∃ E P : Int, grammar_Parse.f l = some ([], E, P) ∧ E ≠ 0 ∧ 0 ≤ P ∧ P ≤ l.length) := by
  rcases parse_spec l hu (by omega) with ⟨ws, es, hp, _, _, _, hr, _, hs⟩ | ⟨E, P, hp, h1, h2, h3, _⟩
  · left
    obtain ⟨h1, h2, h3⟩ := reads_all hr
    have h4 := len_text es
    exact ⟨es, ⟨(textU es).toArray⟩, hp, print_f es h1 (by omega), parse_print es h1 (by omega), same_ck es (by omega) (fun x hx => (h1 x hx).1), by show (textU es).length ≤ _; omega, by omega⟩
  · exact .inr ⟨E, P, hp, h1, h2, h3⟩
theorem evs_app : ∀ (a b : List Ln), evsL (a ++ b) = match evsL a with
    | none => none
    | some (.inr e) => some (.inr e)
    | some (.inl es) => match evsL b with
      | none => none
      | some (.inr e) => some (.inr e)
      | some (.inl fs) => some (.inl (es ++ fs))
  | [], b => by
    rw [List.nil_append]
    rw [evsL]
    dsimp only
    cases evsL b with
    | none => rfl
    | some x => cases x <;> rfl
  | s :: a, b => by
    have ih := evs_app a b
    rw [List.cons_append, evsL, evsL]
    cases readL s.f1 with
    | none => rfl
    | some x =>
      cases x with
      | inr e => rfl
      | inl e =>
        dsimp only
        rw [ih]
        cases evsL a with
        | none => rfl
        | some y =>
          cases y with
          | inr e => rfl
          | inl es =>
            dsimp only
            cases evsL b with
            | none => rfl
            | some z => cases z <;> rfl
theorem evs_shift (d : Nat) {N : Int} : ∀ {ls : List Ln} {ws : List (List ByteArray)}, AreL N ls ws → (∀ w ∈ ws, GoodWs w) →
    (∃ es, evsL ls = some (.inl es) ∧ evsL (ls.map (shL d)) = some (.inl es)) ∨ (∃ E P : Int, evsL ls = some (.inr (E, P)) ∧ evsL (ls.map (shL d)) = some (.inr (E, P + d)))
  | [], [], _, _ => .inl ⟨[], rfl, rfl⟩
  | s :: ls, w :: ws, ⟨⟨p, h1, h2, h3⟩, h⟩, hg => by
    have h4 : (shL d s).f1 = wordsAt (p + d) w := by rw [wordsAt_shift, ← h3]; rfl
    rw [List.map_cons, evsL, evsL, h3, h4]
    rcases read_spec w (hg w List.mem_cons_self) with ⟨ev, hr, _⟩ | ⟨E, q, hE, hd, hr⟩
    · rw [hr, hr]
      dsimp only
      rcases evs_shift d h (fun z hz => hg z (List.mem_cons_of_mem _ hz)) with ⟨es, h5, h6⟩ | ⟨E, P, h5, h6⟩
      · rw [h5, h6]
        exact .inl ⟨_, rfl, rfl⟩
      · rw [h5, h6]
        exact .inr ⟨_, _, rfl, rfl⟩
    · rw [hr, hr]
      refine .inr ⟨E, p + q, rfl, ?_⟩
      dsimp only
      rw [show p + (d : Int) + (q : Int) = p + q + d by omega]
  | [], _ :: _, h, _ => h.elim
  | _ :: _, [], h, _ => h.elim
theorem two_facts (a b : List Int) (ha : isU8 a = true) (hb : isU8 b = true) (hal : a.length ≤ 800) (hbl : b.length ≤ 800) :
    ∃ la ea pa lb eb pb lh eh ph, grammar_Parse.f (a ++ [10]) = some (la, ea, pa) ∧ grammar_Parse.f b = some (lb, eb, pb) ∧ grammar_Parse.f (a ++ [10] ++ b) = some (lh, eh, ph) ∧
      ((ea = 0 ∧ eb = 0 ∧ eh = 0 ∧ ph = 0 ∧ lh = la ++ lb ∧ armisticekit_SameEvents.f lh (la ++ lb) = some true ∧ la.length + lb.length ≤ 2000) ∨ (¬ (ea = 0 ∧ eb = 0) ∧ eh ≠ 0 ∧ lh = [] ∧ (ea = 0 ∨ eb = 0 ∨ eh = ea ∨ eh = eb))) := by
  have hu1 : isU8 (a ++ [10]) = true := List.all_eq_true.2 fun x hx => by
    rcases List.mem_append.1 hx with hx | hx
    · exact List.all_eq_true.1 ha x hx
    · rw [List.mem_singleton.1 hx]; rfl
  have hu2 : isU8 (a ++ [10] ++ b) = true := List.all_eq_true.2 fun x hx => by
    rcases List.mem_append.1 hx with hx | hx
    · exact List.all_eq_true.1 hu1 x hx
    · exact List.all_eq_true.1 hb x hx
  have hl1 : (a ++ [10]).length = a.length + 1 := by simp
  have hl2 : (a ++ [10] ++ b).length = a.length + 1 + b.length := by rw [List.length_append, hl1]
  have H := parse_spec (a ++ [10] ++ b) hu2 (by omega)
  have h2 := LN_two a b
  rcases parse_spec (a ++ [10]) hu1 (by omega) with ⟨wa, la, pa, aa, ta, va, ra, ga, sa⟩ | ⟨ea, qa, pa, na, _, _, ca⟩
  · rcases parse_spec b hb (by omega) with ⟨wb, lb, pb, ab, tb, vb, rb, gb, sb⟩ | ⟨eb, qb, pb, nb, _, _, cb⟩
    · rw [if_pos ta, if_pos tb] at h2
      have hev : evsL (LN (a ++ [10] ++ b)).1 = some (.inl (la ++ lb)) := by
        rw [h2]
        dsimp only
        rw [evs_app, va]
        dsimp only
        rcases evs_shift (a ++ [10]).length ab gb with ⟨es, h5, h6⟩ | ⟨E, P, h5, h6⟩
        · rw [vb] at h5
          cases h5
          rw [h6]
        · rw [vb] at h5
          cases h5
      rcases H with ⟨wh, lh, phh, ah, th, vh, rh, gh, sh⟩ | ⟨eh, qh, phh, nh, _, _, ch⟩
      · rw [hev] at vh
        cases vh
        obtain ⟨x1, x2, x3⟩ := reads_all rh
        have x4 := len_text (la ++ lb)
        have x5 : (la ++ lb).length ≤ 2000 := by omega
        rw [List.length_append] at x5
        exact ⟨_, _, _, _, _, _, _, _, _, pa, pb, phh, .inl ⟨rfl, rfl, rfl, rfl, rfl, same_ck _ (by omega) (fun x hx => (x1 x hx).1), x5⟩⟩
      · rcases ch with ⟨_, h⟩ | ⟨_, h, _⟩
        · rw [h2] at h
          exact absurd rfl h
        · rw [hev] at h
          cases h
    · rcases H with ⟨wh, lh, phh, ah, th, vh, rh, gh, sh⟩ | ⟨eh, qh, phh, nh, _, _, ch⟩
      · exfalso
        rw [if_pos ta] at h2
        rcases cb with ⟨_, h⟩ | ⟨h, h', wb, ab, gb⟩
        · rw [if_neg h] at h2
          rw [h2] at th
          exact h th
        · rw [if_pos h] at h2
          rw [h2] at vh
          dsimp only at vh
          rw [evs_app, va] at vh
          dsimp only at vh
          rcases evs_shift (a ++ [10]).length ab gb with ⟨es, h5, h6⟩ | ⟨E, P, h5, h6⟩
          · rw [h'] at h5
            cases h5
          · rw [h6] at vh
            cases vh
      · exact ⟨_, _, _, _, _, _, _, _, _, pa, pb, phh, .inr ⟨fun h => nb h.2, nh, rfl, .inl rfl⟩⟩
  · rcases parse_spec b hb (by omega) with ⟨wb, lb, pb, ab, tb, vb, rb, gb, sb⟩ | ⟨eb, qb, pb, nb, _, _, cb⟩
    · rcases H with ⟨wh, lh, phh, ah, th, vh, rh, gh, sh⟩ | ⟨eh, qh, phh, nh, _, _, ch⟩
      · exfalso
        rcases ca with ⟨_, h⟩ | ⟨h, h', wa, aa, ga⟩
        · rw [if_neg h] at h2
          rw [h2] at th
          exact h th
        · rw [if_pos h, if_pos tb] at h2
          rw [h2] at vh
          dsimp only at vh
          rw [evs_app, h'] at vh
          cases vh
      · exact ⟨_, _, _, _, _, _, _, _, _, pa, pb, phh, .inr ⟨fun h => na h.1, nh, rfl, .inr (.inl rfl)⟩⟩
    · rcases H with ⟨wh, lh, phh, ah, th, vh, rh, gh, sh⟩ | ⟨eh, qh, phh, nh, _, _, ch⟩
      · exfalso
        rcases ca with ⟨_, h⟩ | ⟨h, h', wa, aa, ga⟩
        · rw [if_neg h] at h2
          rw [h2] at th
          exact h th
        · rw [if_pos h] at h2
          rcases cb with ⟨_, k⟩ | ⟨k, _, _⟩
          · rw [if_neg k] at h2
            rw [h2] at th
            exact k th
          · rw [if_pos k] at h2
            rw [h2] at vh
            dsimp only at vh
            rw [evs_app, h'] at vh
            cases vh
      · refine ⟨_, _, _, _, _, _, _, _, _, pa, pb, phh, .inr ⟨fun h => na h.1, nh, rfl, ?_⟩⟩
        rcases ca with ⟨ca, h⟩ | ⟨h, h', wa, aa, ga⟩
        · rw [if_neg h] at h2
          rcases ch with ⟨ch, _⟩ | ⟨k, _⟩
          · rw [h2] at ch
            exact .inr (.inr (.inl (ch.symm.trans ca)))
          · rw [h2] at k
            exact absurd k h
        · rw [if_pos h] at h2
          rcases cb with ⟨cb, k⟩ | ⟨k, k', wb, ab, gb⟩
          · rw [if_neg k] at h2
            rcases ch with ⟨ch, _⟩ | ⟨j, _⟩
            · rw [h2] at ch
              exact .inr (.inr (.inr (ch.symm.trans cb)))
            · rw [h2] at j
              exact absurd j k
          · rw [if_pos k] at h2
            rcases ch with ⟨_, j⟩ | ⟨j, j', _⟩
            · rw [h2] at j
              exact absurd rfl j
            · rw [h2] at j'
              dsimp only at j'
              rw [evs_app, h'] at j'
              cases j'
              exact .inr (.inr (.inl rfl))
end Go.Proofs.YtkjnbfjbdlcehaaGreatDoor.P.Z12
