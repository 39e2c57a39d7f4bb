/- Plain facts of events: the words of an event's line; what is printed is these words, and they are read as the event. -/
import Derived.Test.YtkjnbfjbdlcehaaGreatDoorM12Lines
import Derived.Test.YtkjnbfjbdlcehaaGreatDoorM4Back
import Derived.Test.YtkjnbfjbdlcehaaGreatDoorZM5
import Derived.Test.YtkjnbfjbdlcehaaGreatDoorEPrint
import Derived.Test.YtkjnbfjbdlcehaaGreatDoorEParse
namespace Go.Proofs.YtkjnbfjbdlcehaaGreatDoor.P.Z12
open Go.RowKit Go.Proofs.YtkjnbfjbdlcehaaGreatDoor.P Go.Proofs.YtkjnbfjbdlcehaaGreatDoor.Pure Go.Proofs.YtkjnbfjbdlcehaaGreatDoorW.PrintWords Go.Proofs.YtkjnbfjbdlcehaaGreatDoorW.PrintLast Go.Proofs.YtkjnbfjbdlcehaaGreatDoorW.PrintMore
set_option linter.unusedVariables false
set_option linter.unusedSimpArgs false
def wordK (k : Int) : ByteArray := if k = 1 then tObject else if k = 2 then tBegin else if k = 3 then tOp else if k = 4 then tCommit else tAbort
def tailE (x : Ev) : List ByteArray :=
  if x.f0 = 1 then wordB x.f4.f0 :: (numsOf x.f4.f0 x.f4.f1 x.f4.f2).map putStr5
  else if x.f0 = 3 then x.f2 :: textWords (kdOf x.f3.f0) x.f3.f1 x.f3.f2 x.f3.f3.f0 x.f3.f3.f1
  else []
def wordsE (x : Ev) : List ByteArray := wordK x.f0 :: x.f1 :: tailE x
def ckE (x : Ev) : Option Int := grammar_Check.f x.f0 x.f1 x.f2 x.f3.f0 x.f3.f1 x.f3.f2 x.f3.f3.f0 x.f3.f3.f1 x.f4.f0 x.f4.f1 x.f4.f2
structure NumE (x : Ev) : Prop where
  a : isI64 x.f3.f1
  b : isI64 x.f3.f2
  n : isI64 x.f3.f3.f1
  m : isI64 x.f4.f1
  l : ∀ y ∈ x.f4.f2, isI64 y
theorem size0 {s : ByteArray} (h : s.size = 0) : s = ⟨#[]⟩ := by
  apply b_ext
  rw [show s.size = s.data.toList.length from rfl] at h
  rw [List.length_eq_zero_iff.1 h]
/-- What it is to be an event that may be. -/
theorem ck_ok {x : Ev} (h : ckE x = some 0) : (1 ≤ x.f0 ∧ x.f0 ≤ 5) ∧ nameB x.f1 = true ∧
    (x.f0 ≠ 1 → x.f4 = ⟨0, 0, []⟩) ∧ (x.f0 ≠ 3 → x.f2 = ⟨#[]⟩ ∧ x.f3 = ⟨0, 0, 0, ⟨0, 0⟩⟩) ∧
    (x.f0 = 3 → nameB x.f2 = true ∧ operation_Check.f x.f3.f0 x.f3.f1 x.f3.f2 x.f3.f3.f0 x.f3.f3.f1 = some 0) ∧
    (x.f0 = 1 → state_Check.f x.f4.f0 x.f4.f1 x.f4.f2 = some 0 ∧ x.f4.f2.length ≤ 1000) := by
  obtain ⟨k, nm, ob, ⟨o0, o1, o2, ⟨o3, o4⟩⟩, ⟨t, n, l⟩⟩ := x
  unfold ckE grammar_Check.f at h
  dsimp only at h ⊢
  by_cases hs : nm.size ≤ 140737488351232 ∧ ob.size ≤ 140737488351232
  · rw [if_pos hs] at h
    by_cases hk : 1 ≤ k ∧ k ≤ 5
    · rw [if_pos hk] at h
      by_cases hc : (k ≠ 1 ∧ emptyS t n l = false) ∨ (k ≠ 3 ∧ (ob.size ≠ 0 ∨ opZero o0 o1 o2 o3 o4 = false))
      · rw [if_pos hc] at h
        exact absurd h (by decide)
      · rw [if_neg hc] at h
        by_cases hn : nameB nm = false ∨ (k = 3 ∧ nameB ob = false)
        · rw [if_pos hn] at h
          exact absurd h (by decide)
        · rw [if_neg hn] at h
          refine ⟨hk, ?_, ?_, ?_, ?_, ?_⟩
          · cases hb : nameB nm
            · exact absurd (.inl hb) hn
            · rfl
          · intro h1
            cases he : emptyS t n l with
            | false => exact absurd (.inl ⟨h1, he⟩) hc
            | true =>
              simp only [emptyS, Bool.and_eq_true, beq_iff_eq] at he
              obtain ⟨rfl, rfl, he⟩ := he
              obtain rfl : l = [] := List.length_eq_zero_iff.1 (by omega)
              rfl
          · intro h3
            refine ⟨?_, ?_⟩
            · by_cases h0 : ob.size = 0
              · exact size0 h0
              · exact absurd (.inr ⟨h3, .inl h0⟩) hc
            · cases he : opZero o0 o1 o2 o3 o4 with
              | false => exact absurd (.inr ⟨h3, .inr he⟩) hc
              | true =>
                obtain ⟨rfl, rfl, rfl, rfl, rfl⟩ := op_no he
                rfl
          · intro h3
            rw [if_pos h3] at h
            refine ⟨?_, h⟩
            cases hb : nameB ob
            · exact absurd (.inr ⟨h3, hb⟩) hn
            · rfl
          · rintro rfl
            rw [if_neg (by decide), if_pos rfl] at h
            obtain ⟨e, he, h⟩ := Option.bind_eq_some_iff.1 h
            by_cases c : e = 0
            · subst c
              rw [if_pos rfl] at h
              by_cases cl : 1000 < l.length
              · rw [if_pos cl] at h
                exact absurd h (by decide)
              · exact ⟨he, by omega⟩
            · rw [if_neg c, Option.some.injEq] at h
              exact absurd h c
    · rw [if_neg hk] at h
      exact absurd h (by decide)
  · rw [if_neg hs] at h
    cases h
theorem name_plain {s : ByteArray} (h : nameB s = true) : goodW s = true ∧ s.size ≤ 32 := by
  unfold nameB at h
  simp only [Bool.and_eq_true, decide_eq_true_eq] at h
  obtain ⟨⟨h1, h2⟩, h3⟩ := h
  refine ⟨?_, h1.2⟩
  unfold goodW plainW
  simp only [Bool.and_eq_true, decide_eq_true_eq, List.all_eq_true]
  refine ⟨by omega, fun c hc => ?_⟩
  obtain ⟨i, hi, rfl⟩ := List.getElem_of_mem hc
  unfold allB at h3
  rw [List.all_eq_true] at h3
  have := h3 i (List.mem_range.2 hi)
  rw [bt_get s i hi] at this
  unfold partB at this
  simp only [Bool.or_eq_true, decide_eq_true_eq] at this
  omega
theorem wordB_good (t : Int) (h : 1 ≤ t ∧ t ≤ 5) : goodW (wordB t) = true ∧ (wordB t).size ≤ 8 := by
  rcases (by omega : t = 1 ∨ t = 2 ∨ t = 3 ∨ t = 4 ∨ t = 5) with rfl | rfl | rfl | rfl | rfl <;> exact ⟨by decide, by decide⟩
theorem wordK_good (k : Int) : goodW (wordK k) = true ∧ (wordK k).size ≤ 6 ∧ bt (wordK k) 0 ≠ 35 := by
  unfold wordK
  split
  · exact ⟨by decide, by decide, by decide⟩
  · split
    · exact ⟨by decide, by decide, by decide⟩
    · split
      · exact ⟨by decide, by decide, by decide⟩
      · split <;> exact ⟨by decide, by decide, by decide⟩
theorem numsOf_len (t n : Int) (l : List Int) (h : l.length ≤ 1000) : (numsOf t n l).length ≤ 1000 := by
  unfold numsOf
  split
  · simp
  · exact h
theorem numsOf_i64 (t n : Int) (l : List Int) (hn : isI64 n) (hl : ∀ y ∈ l, isI64 y) : ∀ y ∈ numsOf t n l, isI64 y := by
  unfold numsOf
  split
  · intro y hy
    rw [List.mem_singleton.1 hy]
    exact hn
  · exact hl
theorem sumS_map (f : Int → ByteArray) (m : Nat) (h : ∀ a, (f a).size ≤ m) : ∀ l : List Int, sumS (l.map f) ≤ l.length * m
  | [] => by simp [sumS]
  | a :: l => by
    have h1 := sumS_map f m h l
    have h2 := h a
    rw [List.map_cons, sumS_cons, List.length_cons, Nat.add_mul]
    omega
/-- An event's words: plain ones, and not too many. -/
theorem wordsE_good {x : Ev} (h : ckE x = some 0) (hn : NumE x) : (∀ w ∈ wordsE x, goodW w = true) ∧ sumS (wordsE x) + (wordsE x).length ≤ 30000 := by
  obtain ⟨hk, h1, h2, h3, h4, h5⟩ := ck_ok h
  obtain ⟨g1, s1⟩ := name_plain h1
  obtain ⟨g0, s0, _⟩ := wordK_good x.f0
  unfold wordsE
  rw [sumS_cons, sumS_cons, List.length_cons, List.length_cons]
  have key : (∀ w ∈ tailE x, goodW w = true) ∧ sumS (tailE x) + (tailE x).length ≤ 29000 := by
    unfold tailE
    by_cases c1 : x.f0 = 1
    · rw [if_pos c1]
      obtain ⟨hc, hl⟩ := h5 c1
      obtain ⟨ht, _, _⟩ := Z5.check_ok hc
      obtain ⟨gb, sb⟩ := wordB_good _ ht
      have hi := numsOf_i64 x.f4.f0 x.f4.f1 x.f4.f2 hn.m hn.l
      have hln := numsOf_len x.f4.f0 x.f4.f1 x.f4.f2 hl
      have hsm := sumS_map putStr5 21 (fun a => putStr5_size a) (numsOf x.f4.f0 x.f4.f1 x.f4.f2)
      refine ⟨fun w hw => ?_, ?_⟩
      · rcases List.mem_cons.1 hw with rfl | hw
        · exact gb
        · obtain ⟨a, ha, rfl⟩ := List.mem_map.1 hw
          exact put_good a (hi a ha)
      · rw [sumS_cons, List.length_cons, List.length_map]
        omega
    · rw [if_neg c1]
      by_cases c3 : x.f0 = 3
      · rw [if_pos c3]
        obtain ⟨hob, hc⟩ := h4 c3
        obtain ⟨go, so⟩ := name_plain hob
        obtain ⟨hk4, _, _⟩ := check_ok4 hc
        obtain ⟨w1, w2, w3⟩ := words_size x.f3.f0 x.f3.f1 x.f3.f2 x.f3.f3.f0 x.f3.f3.f1 hk4
        have hjs := join_size _ w3
        refine ⟨fun w hw => ?_, ?_⟩
        · rcases List.mem_cons.1 hw with rfl | hw
          · exact go
          · exact words_good _ _ _ _ _ hk4 hn.a hn.b hn.n w hw
        · rw [sumS_cons, List.length_cons]
          omega
      · rw [if_neg c3]
        exact ⟨fun w hw => (by cases hw), by simp [sumS]⟩
  refine ⟨fun w hw => ?_, by omega⟩
  rcases List.mem_cons.1 hw with rfl | hw
  · exact g0
  · rcases List.mem_cons.1 hw with rfl | hw
    · exact g1
    · exact key.1 w hw
theorem joinB_nest (a b : ByteArray) (xs : List ByteArray) (h : xs ≠ []) : joinB [a, b, joinB xs] = joinB (a :: b :: xs) := by
  obtain ⟨y, r, rfl⟩ := List.exists_cons_of_ne_nil h
  rw [joinB_cons, joinB_cons, joinB_one, joinB_cons, joinB_cons b y r]
theorem joinB_nest4 (a b c : ByteArray) (xs : List ByteArray) (h : xs ≠ []) : joinB [a, b, c, joinB xs] = joinB (a :: b :: c :: xs) := by
  rw [joinB_cons, joinB_nest _ _ _ h, ← joinB_cons]
theorem join_fits (l : List ByteArray) (h : l ≠ []) (hs : sumS l + l.length ≤ 100000) : strings_Join.f l ⟨#[32]⟩ = some (joinB l) := by
  have hj := join_size l h
  unfold strings_Join.f
  rw [if_pos]
  · rfl
  · refine ⟨by omega, ?_⟩
    have : (Lib.join (l.map (·.data.toList)) [32]).length = (joinB l).size := rfl
    show (Lib.join (l.map (·.data.toList)) [32]).length ≤ _
    omega
/-- Its line. -/
theorem line_ok {x : Ev} (h : ckE x = some 0) (hn : NumE x) : lineE x = some (joinB (wordsE x), 0) := by
  obtain ⟨hk, h1, h2, h3, h4, h5⟩ := ck_ok h
  obtain ⟨gw, gs⟩ := wordsE_good h hn
  have hw : grammar_word.f x.f0 = some (wordK x.f0) := by
    rcases (by omega : x.f0 = 1 ∨ x.f0 = 2 ∨ x.f0 = 3 ∨ x.f0 = 4 ∨ x.f0 = 5) with e | e | e | e | e <;> rw [e] <;> rfl
  unfold lineE grammar_Line.f
  unfold ckE at h
  rw [h, Option.bind_some, if_pos rfl, hw, Option.bind_some]
  by_cases c1 : x.f0 = 1
  · obtain ⟨hc, hl⟩ := h5 c1
    have ht := Z5.text_f x.f4.f0 x.f4.f1 x.f4.f2 hl hn.m hn.l 0 hc
    rw [if_pos rfl] at ht
    have e1 : wordsE x = wordK x.f0 :: x.f1 :: (wordB x.f4.f0 :: (numsOf x.f4.f0 x.f4.f1 x.f4.f2).map putStr5) := by unfold wordsE tailE; rw [if_pos c1]
    have e2 : joinB [wordK x.f0, x.f1, joinB5 (wordB x.f4.f0 :: (numsOf x.f4.f0 x.f4.f1 x.f4.f2).map putStr5)] = joinB (wordsE x) := by
      rw [e1]
      exact joinB_nest _ _ _ (by simp)
    have hsz : (joinB (wordsE x)).size + 1 = sumS (wordsE x) + (wordsE x).length := join_size _ (by simp [wordsE])
    have hs2 := join_size [wordK x.f0, x.f1, joinB5 (wordB x.f4.f0 :: (numsOf x.f4.f0 x.f4.f1 x.f4.f2).map putStr5)] (by simp)
    rw [e2] at hs2
    rw [if_pos c1, ht, Option.bind_some, show ([wordK x.f0, x.f1] ++ [(joinB5 (wordB x.f4.f0 :: (numsOf x.f4.f0 x.f4.f1 x.f4.f2).map putStr5), (0 : Int)).1]) = [wordK x.f0, x.f1, joinB5 (wordB x.f4.f0 :: (numsOf x.f4.f0 x.f4.f1 x.f4.f2).map putStr5)] from rfl, join_fits _ (by simp) (by omega), Option.bind_some, e2]
  · rw [if_neg c1]
    by_cases c3 : x.f0 = 3
    · obtain ⟨hob, hc⟩ := h4 c3
      have hk4 := (check_ok4 hc).1
      have ht : operation_Text.f x.f3.f0 x.f3.f1 x.f3.f2 x.f3.f3.f0 x.f3.f3.f1 = some (joinB (textWords (kdOf x.f3.f0) x.f3.f1 x.f3.f2 x.f3.f3.f0 x.f3.f3.f1), 0) := by
        unfold operation_Text.f
        rw [if_pos ⟨hn.a, hn.b, hn.n⟩, hc, Option.bind_some, if_pos rfl]
      have e1 : wordsE x = wordK x.f0 :: x.f1 :: x.f2 :: textWords (kdOf x.f3.f0) x.f3.f1 x.f3.f2 x.f3.f3.f0 x.f3.f3.f1 := by unfold wordsE tailE; rw [if_neg c1, if_pos c3]
      have e2 : joinB [wordK x.f0, x.f1, x.f2, joinB (textWords (kdOf x.f3.f0) x.f3.f1 x.f3.f2 x.f3.f3.f0 x.f3.f3.f1)] = joinB (wordsE x) := by
        rw [e1]
        exact joinB_nest4 _ _ _ _ (words_size _ _ _ _ _ hk4).2.2
      have hsz : (joinB (wordsE x)).size + 1 = sumS (wordsE x) + (wordsE x).length := join_size _ (by simp [wordsE])
      have hs2 := join_size [wordK x.f0, x.f1, x.f2, joinB (textWords (kdOf x.f3.f0) x.f3.f1 x.f3.f2 x.f3.f3.f0 x.f3.f3.f1)] (by simp)
      rw [e2] at hs2
      rw [if_pos c3, ht, Option.bind_some, show ([wordK x.f0, x.f1] ++ [x.f2, (joinB (textWords (kdOf x.f3.f0) x.f3.f1 x.f3.f2 x.f3.f3.f0 x.f3.f3.f1), (0 : Int)).1]) = [wordK x.f0, x.f1, x.f2, joinB (textWords (kdOf x.f3.f0) x.f3.f1 x.f3.f2 x.f3.f3.f0 x.f3.f3.f1)] from rfl, join_fits _ (by simp) (by omega), Option.bind_some, e2]
    · have e1 : wordsE x = [wordK x.f0, x.f1] := by unfold wordsE tailE; rw [if_neg c1, if_neg c3]
      rw [if_neg c3, ← e1, join_fits _ (by simp [wordsE]) (by omega), Option.bind_some]
theorem line_size {x : Ev} (h : ckE x = some 0) (hn : NumE x) : (joinB (wordsE x)).size ≤ 30000 ∧ bt (joinB (wordsE x)) 0 ≠ 35 := by
  obtain ⟨gw, gs⟩ := wordsE_good h hn
  have hsz : (joinB (wordsE x)).size + 1 = sumS (wordsE x) + (wordsE x).length := join_size _ (by simp [wordsE])
  obtain ⟨g0, s0, b0⟩ := wordK_good x.f0
  refine ⟨by omega, ?_⟩
  unfold wordsE
  rw [joinB_first _ _ (good_size g0)]
  exact b0
/-- Its words are read as it was. -/
theorem read_words {x : Ev} (h : ckE x = some 0) (hn : NumE x) (p : Int) : readL (wordsAt p (wordsE x)) = some (.inl x) := by
  obtain ⟨hk, h1, h2, h3, h4, h5⟩ := ck_ok h
  have hr : ∀ i, restW (wordsAt p (wordsE x)) i = (wordsE x).drop i := fun i => by
    unfold restW
    rw [List.map_drop, wordsAt_texts]
  have hlen : (wordsAt p (wordsE x)).length = (wordsE x).length := wordsAt_len _ _
  have hkw : kindW (wordK x.f0) = x.f0.toNat := by
    rcases (by omega : x.f0 = 1 ∨ x.f0 = 2 ∨ x.f0 = 3 ∨ x.f0 = 4 ∨ x.f0 = 5) with e | e | e | e | e <;> rw [e] <;> decide
  have e0 : (wordsAt p (wordsE x))[0]? = some ⟨wordK x.f0, p⟩ := rfl
  have e1 : (wordsAt p (wordsE x))[1]? = some ⟨x.f1, p + ((wordK x.f0).size : Int) + 1⟩ := rfl
  unfold readL
  rw [e0]
  dsimp only
  rw [hkw, if_neg (by omega), e1]
  dsimp only
  rw [if_neg (by rw [h1]; decide)]
  obtain ⟨k, nm, ob, o, st⟩ := x
  dsimp only at *
  by_cases c1 : k = 1
  · subst c1
    obtain ⟨hc, hl⟩ := h5 rfl
    obtain ⟨rfl, rfl⟩ := h3 (by decide)
    have hd : (wordsE ⟨1, nm, ⟨#[]⟩, ⟨0, 0, 0, ⟨0, 0⟩⟩, st⟩).drop 2 = wordB st.f0 :: (numsOf st.f0 st.f1 st.f2).map putStr5 := by unfold wordsE tailE; rw [if_pos rfl]; rfl
    rw [if_pos (by decide)]
    have ho : objL (wordsAt p (wordsE ⟨1, nm, ⟨#[]⟩, ⟨0, 0, 0, ⟨0, 0⟩⟩, st⟩)) = some (.inl (st.f0, st.f1, st.f2)) := by
      unfold objL
      rw [if_neg (by rw [hlen]; unfold wordsE tailE; rw [if_pos rfl]; simp), hr, hd, show joinW (wordB st.f0 :: (numsOf st.f0 st.f1 st.f2).map putStr5) = joinB5 (wordB st.f0 :: (numsOf st.f0 st.f1 st.f2).map putStr5) from rfl, Z5.read_text _ _ _ hl hn.m hn.l hc]
      dsimp only
      rw [if_pos rfl, if_neg (by omega)]
    rw [ho]
    rfl
  · rw [if_neg (by omega)]
    by_cases c3 : k = 3
    · subst c3
      obtain ⟨hob, hc⟩ := h4 rfl
      obtain rfl := h2 (by decide)
      have hd : (wordsE ⟨3, nm, ob, o, ⟨0, 0, []⟩⟩).drop 3 = textWords (kdOf o.f0) o.f1 o.f2 o.f3.f0 o.f3.f1 := by unfold wordsE tailE; rw [if_neg (show ¬ (3 : Int) = 1 by decide), if_pos rfl]; rfl
      have e2 : ∃ q, (wordsAt p (wordsE ⟨3, nm, ob, o, ⟨0, 0, []⟩⟩))[2]? = some ⟨ob, q⟩ := by unfold wordsE tailE; rw [if_neg (show ¬ (3 : Int) = 1 by decide), if_pos rfl]; exact ⟨_, rfl⟩
      obtain ⟨q, e2⟩ := e2
      rw [if_pos (by decide)]
      have ho : opL (wordsAt p (wordsE ⟨3, nm, ob, o, ⟨0, 0, []⟩⟩)) = some (.inl (ob, o.f0, o.f1, o.f2, o.f3.f0, o.f3.f1)) := by
        unfold opL
        rw [e2]
        dsimp only
        rw [if_neg (by rw [hob]; decide), hr, hd, read_self _ _ _ _ _ hn.a hn.b hn.n hc]
        rfl
      rw [ho]
      rfl
    · have hk2 : (wordsE ⟨k, nm, ob, o, st⟩).length = 2 := by unfold wordsE tailE; rw [if_neg c1, if_neg c3]; rfl
      obtain ⟨rfl, rfl⟩ := h3 c3
      obtain rfl := h2 c1
      rw [if_neg (by omega), if_neg (by rw [hlen, hk2]; omega), evS, show ((k.toNat : Nat) : Int) = k by omega]
end Go.Proofs.YtkjnbfjbdlcehaaGreatDoor.P.Z12
