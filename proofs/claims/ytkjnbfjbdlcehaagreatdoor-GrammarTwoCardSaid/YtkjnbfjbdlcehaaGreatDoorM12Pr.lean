/- Plain facts of texts of events: their lines, and what reading a line tells. -/
import Derived.Test.YtkjnbfjbdlcehaaGreatDoorM12Ev
namespace Go.Proofs.YtkjnbfjbdlcehaaGreatDoor.P.Z12
open Go.RowKit Go.Proofs.YtkjnbfjbdlcehaaGreatDoor.P Go.Proofs.YtkjnbfjbdlcehaaGreatDoor.P.Z2 Go.Proofs.YtkjnbfjbdlcehaaGreatDoor.Pure Go.Proofs.YtkjnbfjbdlcehaaGreatDoorW.PrintWords Go.Proofs.YtkjnbfjbdlcehaaGreatDoorW.PrintLast Go.Proofs.YtkjnbfjbdlcehaaGreatDoorW.PrintMore
set_option linter.unusedVariables false
set_option linter.unusedSimpArgs false
/-! Words of a line, as plain ones. -/
def GoodWs (w : List ByteArray) : Prop := w ≠ [] ∧ (∀ x ∈ w, goodW x = true) ∧ bt (joinB w) 0 ≠ 35 ∧ (joinB w).size ≤ 65536
def offW (w : List ByteArray) (i : Nat) : Nat := if i < w.length then sumS (w.take i) + i else (joinB w).size
theorem sumS_take_le (ws : List ByteArray) (k : Nat) : sumS (ws.take k) ≤ sumS ws := by
  have h := congrArg sumS (List.take_append_drop k ws)
  rw [sumS_app] at h
  omega
theorem offW_le (w : List ByteArray) (i : Nat) (h : w ≠ []) : offW w i ≤ (joinB w).size := by
  have hj := join_size w h
  have ht := sumS_take_le w i
  unfold offW
  split
  · omega
  · exact Nat.le_refl _
theorem wordsAt_at : ∀ (l : List ByteArray) (p : Int) (i : Nat) (h : i < l.length), (wordsAt p l)[i]? = some ⟨l[i], p + sumS (l.take i) + i⟩
  | w :: r, p, 0, h => by simp [wordsAt, sumS]
  | w :: r, p, i + 1, h => by
    rw [wordsAt, List.getElem?_cons_succ, wordsAt_at r _ i (by simpa using h), List.take_succ_cons, sumS_cons, List.getElem_cons_succ]
    congr 2
    omega
theorem wordsAt_none (l : List ByteArray) (p : Int) (i : Nat) (h : l.length ≤ i) : (wordsAt p l)[i]? = none := by
  rw [List.getElem?_eq_none]
  rw [wordsAt_len]
  exact h
theorem atW_off (w : List ByteArray) (p : Int) (i : Nat) (h : w ≠ []) : atW (wordsAt p w) i = p + offW w i := by
  unfold atW offW
  have hpos : 0 < w.length := List.length_pos_iff.2 h
  by_cases c : i < w.length
  · rw [wordsAt_at w p i c, if_pos c]
    dsimp only
    omega
  · rw [wordsAt_none w p i (by omega), if_neg c, List.getLast?_eq_getElem?, wordsAt_len, wordsAt_at w p (w.length - 1) (by omega)]
    dsimp only
    have hj := join_size w h
    have h1 : sumS w = sumS (w.take (w.length - 1)) + w[w.length - 1].size := by
      have h2 : w.take (w.length - 1 + 1) = w := List.take_of_length_le (by omega)
      conv => lhs; rw [← h2, List.take_succ_eq_append_getElem (by omega), sumS_app]
      simp [sumS]
    omega
theorem rest_at (w : List ByteArray) (p : Int) (i : Nat) : restW (wordsAt p w) i = w.drop i := by
  unfold restW
  rw [List.map_drop, wordsAt_texts]
theorem join_drop2 (a b : ByteArray) (r : List ByteArray) (h : r ≠ []) : offW (a :: b :: r) 2 + (joinB r).size = (joinB (a :: b :: r)).size := by
  have h1 := join_size r h
  have h2 := join_size (a :: b :: r) (by simp)
  have hl : 0 < r.length := List.length_pos_iff.2 h
  rw [sumS_cons, sumS_cons, List.length_cons, List.length_cons] at h2
  unfold offW
  rw [if_pos (by simp only [List.length_cons]; omega)]
  have h3 : sumS ((a :: b :: r).take 2) = a.size + b.size := by
    rw [show (a :: b :: r).take 2 = [a, b] from rfl, sumS_cons, sumS_cons]
    simp [sumS]
  omega
theorem kind_word (s : ByteArray) (h : kindW s ≠ 0) : s = wordK (kindW s : Int) := by
  unfold kindW at h ⊢
  split
  · rename_i e; exact b_ext e
  · split
    · rename_i e; exact b_ext e
    · split
      · rename_i e; exact b_ext e
      · split
        · rename_i e; exact b_ext e
        · split
          · rename_i e; exact b_ext e
          · rename_i e1 e2 e3 e4 e5
            rw [if_neg e1, if_neg e2, if_neg e3, if_neg e4, if_neg e5] at h
            exact absurd rfl h
theorem zero64 : isI64 0 := by
  show (-9223372036854775808 : Int) ≤ 0 ∧ (0 : Int) ≤ 9223372036854775807
  omega
theorem name_small {s : ByteArray} (h : nameB s = true) : s.size ≤ 140737488351232 := by
  have := (name_plain h).2
  omega
theorem sz0 : (⟨#[]⟩ : ByteArray).size = 0 := rfl
theorem opz0 : opZero 0 0 0 0 0 = true := rfl
theorem emp0 : emptyS 0 0 [] = true := rfl
/-- What reading a line tells: an event whose words they are; or a fault within the line. -/
theorem read_spec (w : List ByteArray) (hg : GoodWs w) :
    (∃ ev, (∀ p, readL (wordsAt p w) = some (.inl ev)) ∧ ckE ev = some 0 ∧ NumE ev ∧ wordsE ev = w) ∨
    (∃ (E : Int) (d : Nat), E ≠ 0 ∧ d ≤ (joinB w).size ∧ ∀ p, readL (wordsAt p w) = some (.inr (E, p + d))) := by
  obtain ⟨hne, hgw, h35, hsz⟩ := hg
  have hoff := fun i => offW_le w i hne
  have hat := fun p i => atW_off w p i hne
  have hjs := join_size w hne
  have hlen := fun p => wordsAt_len w p
  obtain ⟨x0, r0, rfl⟩ := List.exists_cons_of_ne_nil hne
  have e0 : ∀ p, (wordsAt p (x0 :: r0))[0]? = some ⟨x0, p⟩ := fun p => rfl
  by_cases k0 : kindW x0 = 0
  · refine .inr ⟨6, offW (x0 :: r0) 0, by decide, hoff 0, fun p => ?_⟩
    unfold readL
    rw [e0]
    dsimp only
    rw [if_pos k0, hat]
  · have hw0 := kind_word x0 k0
    cases r0 with
    | nil =>
      refine .inr ⟨5, offW [x0] 1, by decide, hoff 1, fun p => ?_⟩
      unfold readL
      rw [e0]
      dsimp only
      rw [if_neg k0, show (wordsAt p [x0])[1]? = none from rfl]
      dsimp only
      rw [hat]
    | cons x1 r =>
      have e1 : ∀ p, (wordsAt p (x0 :: x1 :: r))[1]? = some ⟨x1, p + (x0.size : Int) + 1⟩ := fun p => rfl
      cases hn : nameB x1 with
      | false =>
        refine .inr ⟨7, offW (x0 :: x1 :: r) 1, by decide, hoff 1, fun p => ?_⟩
        unfold readL
        rw [e0]
        dsimp only
        rw [if_neg k0, e1]
        dsimp only
        rw [if_pos hn, hat]
      | true =>
        have hns := name_small hn
        have hrd : ∀ p, readL (wordsAt p (x0 :: x1 :: r)) = (if kindW x0 = 1 then (match objL (wordsAt p (x0 :: x1 :: r)) with
            | none => none
            | some (.inr b) => some (.inr b)
            | some (.inl (T, N, L)) => some (.inl { evS 1 x1 with f4 := ⟨T, N, L⟩ }))
          else if kindW x0 = 3 then (match opL (wordsAt p (x0 :: x1 :: r)) with
            | none => none
            | some (.inr b) => some (.inr b)
            | some (.inl (s, k, a, b, rk, rn)) => some (.inl { evS 3 x1 with f2 := s, f3 := ⟨k, a, b, ⟨rk, rn⟩⟩ }))
          else if 2 < (wordsAt p (x0 :: x1 :: r)).length then some (.inr (5, atW (wordsAt p (x0 :: x1 :: r)) 2)) else some (.inl (evS (kindW x0) x1))) := fun p => by
          conv => lhs; unfold readL
          rw [e0]
          dsimp only
          rw [if_neg k0, e1]
          dsimp only
          rw [if_neg (by rw [hn]; decide)]
          rfl
        by_cases k1 : kindW x0 = 1
        · rw [k1] at hw0
          cases r with
          | nil =>
            refine .inr ⟨5, offW [x0, x1] 2, by decide, hoff 2, fun p => ?_⟩
            have ho : objL (wordsAt p [x0, x1]) = some (.inr (5, p + offW [x0, x1] 2)) := by
              unfold objL
              rw [if_pos (by rw [hlen]; exact Nat.le_refl _), hat]
            rw [hrd, if_pos k1, ho]
          | cons x2 r =>
            have hj2 := join_drop2 x0 x1 (x2 :: r) (by simp)
            obtain ⟨t, n, l, e, a, hr, ha0, ha1, hcase⟩ := Z5.read_all (joinB (x2 :: r)) (by omega)
            have hob : ∀ p, objL (wordsAt p (x0 :: x1 :: x2 :: r)) = (if e = 0 then (if 1000 < l.length then some (.inr (4, p + offW (x0 :: x1 :: x2 :: r) 2)) else some (.inl (t, n, l))) else if 0 ≤ a ∧ a ≤ 1000000 then some (.inr (e, p + offW (x0 :: x1 :: x2 :: r) 2 + a)) else none) := fun p => by
              unfold objL
              rw [if_neg (by rw [hlen]; simp only [List.length_cons]; omega), rest_at, hat]
              have hr' : state_Read.f (joinW (List.drop 2 (x0 :: x1 :: x2 :: r))) = some (t, n, l, e, a) := hr
              rw [hr']
            rcases hcase with ⟨rfl, rfl, hc, hnn, hli, hll, hjo⟩ | ⟨he, rfl, rfl, rfl⟩
            · by_cases cl : 1000 < l.length
              · refine .inr ⟨4, offW (x0 :: x1 :: x2 :: r) 2, by decide, hoff 2, fun p => ?_⟩
                rw [hrd, if_pos k1, hob, if_pos rfl, if_pos cl]
              · obtain ⟨ht, hz1, hz2⟩ := Z5.check_ok hc
                have hgb := wordB_good t ht
                have hnm := numsOf_i64 t n l hnn hli
                have hrest : x2 :: r = wordB t :: (numsOf t n l).map putStr5 := by
                  have p1 := pieces_join (x2 :: r) (by simp) (fun y hy => hgw y (List.mem_cons_of_mem _ (List.mem_cons_of_mem _ hy)))
                  have p2 := pieces_join (wordB t :: (numsOf t n l).map putStr5) (by simp) (fun y hy => by
                    rcases List.mem_cons.1 hy with rfl | hy
                    · exact hgb.1
                    · obtain ⟨z, hz, rfl⟩ := List.mem_map.1 hy
                      exact put_good z (hnm z hz))
                  rw [← p1, ← p2]
                  exact congrArg piecesB hjo.symm
                refine .inl ⟨⟨1, x1, ⟨#[]⟩, ⟨0, 0, 0, ⟨0, 0⟩⟩, ⟨t, n, l⟩⟩, fun p => ?_, ?_, ⟨zero64, zero64, zero64, hnn, hli⟩, ?_⟩
                · rw [hrd, if_pos k1, hob, if_pos rfl, if_neg cl]
                  rfl
                · unfold ckE grammar_Check.f
                  dsimp only
                  rw [if_pos ⟨hns, by rw [sz0]; omega⟩, if_pos (by decide), if_neg (by rintro (h | ⟨_, h | h⟩) <;> first | exact h.1 rfl | exact h rfl | exact absurd h (by rw [opz0]; decide)), if_neg (by rintro (h | h) <;> first | exact absurd h (by rw [hn]; decide) | exact absurd h.1 (by decide)), if_neg (by decide), if_pos rfl, hc, Option.bind_some, if_pos rfl, if_neg cl]
                · unfold wordsE tailE
                  rw [if_pos rfl, hrest, hw0]
                  rfl
            · refine .inr ⟨e, offW (x0 :: x1 :: x2 :: r) 2 + a.toNat, he, by omega, fun p => ?_⟩
              rw [hrd, if_pos k1, hob, if_neg he, if_pos ⟨ha0, by omega⟩, show p + ((offW (x0 :: x1 :: x2 :: r) 2 + a.toNat : Nat) : Int) = p + offW (x0 :: x1 :: x2 :: r) 2 + a by omega]
        · by_cases k3 : kindW x0 = 3
          · rw [k3] at hw0
            cases r with
            | nil =>
              refine .inr ⟨5, offW [x0, x1] 2, by decide, hoff 2, fun p => ?_⟩
              have ho : opL (wordsAt p [x0, x1]) = some (.inr (5, p + offW [x0, x1] 2)) := by
                unfold opL
                rw [show (wordsAt p [x0, x1])[2]? = none from rfl]
                dsimp only
                rw [hat]
              rw [hrd, if_neg k1, if_pos k3, ho]
            | cons x2 r =>
              have e2 : ∀ p, (wordsAt p (x0 :: x1 :: x2 :: r))[2]? = some ⟨x2, p + (x0.size : Int) + 1 + (x1.size : Int) + 1⟩ := fun p => rfl
              cases hm : nameB x2 with
              | false =>
                refine .inr ⟨7, offW (x0 :: x1 :: x2 :: r) 2, by decide, hoff 2, fun p => ?_⟩
                have ho : opL (wordsAt p (x0 :: x1 :: x2 :: r)) = some (.inr (7, p + offW (x0 :: x1 :: x2 :: r) 2)) := by
                  unfold opL
                  rw [e2]
                  dsimp only
                  rw [if_pos hm, hat]
                rw [hrd, if_neg k1, if_pos k3, ho]
              | true =>
                have hms := name_small hm
                obtain ⟨k, a, b, rk, rn, at_, e, hr, hcase⟩ := Z4.read_told r
                have hob : ∀ p, opL (wordsAt p (x0 :: x1 :: x2 :: r)) = (if e = 0 then some (.inl (x2, k, a, b, rk, rn)) else if 0 ≤ at_ ∧ at_ ≤ 1000000 then some (.inr (e, p + offW (x0 :: x1 :: x2 :: r) (at_.toNat + 3))) else none) := fun p => by
                  unfold opL
                  rw [e2]
                  dsimp only
                  rw [if_neg (by rw [hm]; decide), rest_at]
                  have hr' : operation_Read.f (List.drop 3 (x0 :: x1 :: x2 :: r)) = some (k, a, b, rk, rn, at_, e) := hr
                  rw [hr']
                  dsimp only
                  rw [hat]
                by_cases he : e = 0
                · subst he
                  obtain ⟨_, hc, ha, hb, hrn, hl⟩ := Z4.read_back hr
                  refine .inl ⟨⟨3, x1, x2, ⟨k, a, b, ⟨rk, rn⟩⟩, ⟨0, 0, []⟩⟩, fun p => ?_, ?_, ⟨ha, hb, hrn, zero64, fun y hy => by cases hy⟩, ?_⟩
                  · rw [hrd, if_neg k1, if_pos k3, hob, if_pos rfl]
                    rfl
                  · unfold ckE grammar_Check.f
                    dsimp only
                    rw [if_pos ⟨hns, hms⟩, if_pos (by decide), if_neg (by rintro (h | h) <;> first | exact absurd h.2 (by rw [emp0]; decide) | exact h.1 rfl), if_neg (by rintro (h | h) <;> first | exact absurd h (by rw [hn]; decide) | exact absurd h.2 (by rw [hm]; decide)), if_pos rfl, hc]
                  · unfold wordsE tailE
                    rw [if_neg (show ¬ (3 : Int) = 1 by decide), if_pos rfl, hw0]
                    show _ :: x1 :: x2 :: textWords (kdOf k) a b rk rn = _
                    rw [← hl]
                    rfl
                · rcases hcase with h | ⟨_, _, _, _, _, _, h1, h2⟩
                  · exact absurd h he
                  · simp only [List.length_cons] at hjs
                    refine .inr ⟨e, offW (x0 :: x1 :: x2 :: r) (at_.toNat + 3), he, hoff _, fun p => ?_⟩
                    rw [hrd, if_neg k1, if_pos k3, hob, if_neg he, if_pos ⟨h1, by omega⟩]
          · cases r with
            | cons x2 r =>
              refine .inr ⟨5, offW (x0 :: x1 :: x2 :: r) 2, by decide, hoff 2, fun p => ?_⟩
              rw [hrd, if_neg k1, if_neg k3, if_pos (by rw [hlen]; simp only [List.length_cons]; omega), hat]
            | nil =>
              have hk5 := kindW_le x0
              refine .inl ⟨evS (kindW x0) x1, fun p => ?_, ?_, ⟨zero64, zero64, zero64, zero64, fun y hy => by cases hy⟩, ?_⟩
              · rw [hrd, if_neg k1, if_neg k3, if_neg (by rw [hlen]; simp)]
              · unfold ckE grammar_Check.f evS
                dsimp only
                rw [if_pos ⟨hns, by rw [sz0]; omega⟩, if_pos (by omega), if_neg (by rintro (h | ⟨_, h | h⟩) <;> first | exact absurd h.2 (by rw [emp0]; decide) | exact h rfl | exact absurd h (by rw [opz0]; decide)), if_neg (by rintro (h | h) <;> first | exact absurd h (by rw [hn]; decide) | (have := h.1; omega)), if_neg (by omega), if_neg (by omega)]
              · unfold wordsE tailE evS
                dsimp only
                rw [if_neg (by omega), if_neg (by omega), ← hw0]
end Go.Proofs.YtkjnbfjbdlcehaaGreatDoor.P.Z12

/- Plain facts of texts of events: what grammar.Parse tells; of two texts; of what is printed. -/
namespace Go.Proofs.YtkjnbfjbdlcehaaGreatDoor.P.Z12
open Go.RowKit Go.Proofs.YtkjnbfjbdlcehaaGreatDoor.P Go.Proofs.YtkjnbfjbdlcehaaGreatDoor.P.Z2 Go.Proofs.YtkjnbfjbdlcehaaGreatDoor.Pure Go.Proofs.YtkjnbfjbdlcehaaGreatDoorW.PrintWords Go.Proofs.YtkjnbfjbdlcehaaGreatDoorW.PrintLast Go.Proofs.YtkjnbfjbdlcehaaGreatDoorW.PrintMore
set_option linter.unusedVariables false
set_option linter.unusedSimpArgs false
def LN (l : List Int) : List Ln × Int × Int := linesOf (cutF (l.length + 1) 0 l)
theorem lines_f (l : List Int) (hu : isU8 l = true) (hl : l.length ≤ 67108864) : token_Lines.f l = some (LN l) := by
  unfold token_Lines.f
  rw [if_pos hu, if_neg (by omega)]
  rfl
theorem LN_two (a b : List Int) : LN (a ++ [10] ++ b) = if (LN (a ++ [10])).2.1 = 0 then (if (LN b).2.1 = 0 then ((LN (a ++ [10])).1 ++ (LN b).1.map (shL ((a ++ [10]).length : Nat)), 0, 0) else ([], (LN b).2.1, (LN b).2.2 + ((a ++ [10]).length : Nat))) else ([], (LN (a ++ [10])).2) := by
  unfold LN
  rw [cut_app b (a ++ [10]).length (a ++ [10]) (Nat.le_refl _) (.inr ⟨a, rfl⟩) 0 _ ((a ++ [10]).length + 1) (b.length + 1) (Nat.lt_succ_self _) (Nat.lt_succ_self _) (Nat.lt_succ_self _), linesOf_app, cutF_shift, linesOf_shift]
  dsimp only
  have hc := linesOf_cases (cutF (b.length + 1) 0 b)
  by_cases h1 : (linesOf (cutF ((a ++ [10]).length + 1) 0 (a ++ [10]))).2.1 = 0
  · rw [if_pos h1, if_pos h1]
    by_cases h2 : (linesOf (cutF (b.length + 1) 0 b)).2.1 = 0
    · rw [if_pos h2, if_pos h2]
    · rw [if_neg h2, if_neg h2]
      rcases hc with hc | hc
      · exact absurd hc.1 h2
      · rw [if_neg h2]
  · rw [if_neg h1, if_neg h1]
def IsL (N : Int) (s : Ln) (w : List ByteArray) : Prop := ∃ p : Int, 0 ≤ p ∧ p + ((joinB w).size : Int) ≤ N ∧ s.f1 = wordsAt p w
def AreL (N : Int) : List Ln → List (List ByteArray) → Prop
  | [], [] => True
  | s :: ls, w :: ws => IsL N s w ∧ AreL N ls ws
  | _, _ => False
theorem areL_app {N : Int} : ∀ {a b : List Ln} {u v : List (List ByteArray)}, AreL N a u → AreL N b v → AreL N (a ++ b) (u ++ v)
  | [], _, [], _, _, h => h
  | _ :: _, _, _ :: _, _, h, k => ⟨h.1, areL_app h.2 k⟩
  | [], _, _ :: _, _, h, _ => h.elim
  | _ :: _, _, [], _, h, _ => h.elim
theorem areL_mono {N M : Int} (hm : N ≤ M) : ∀ {a : List Ln} {u : List (List ByteArray)}, AreL N a u → AreL M a u
  | [], [], h => h
  | _ :: _, _ :: _, ⟨⟨p, h1, h2, h3⟩, h⟩ => ⟨⟨p, h1, by omega, h3⟩, areL_mono hm h⟩
  | [], _ :: _, h => h.elim
  | _ :: _, [], h => h.elim
theorem areL_shift {N : Int} (d : Nat) : ∀ {a : List Ln} {u : List (List ByteArray)}, AreL N a u → AreL (N + d) (a.map (shL d)) u
  | [], [], h => h
  | s :: _, w :: _, ⟨⟨p, h1, h2, h3⟩, h⟩ => ⟨⟨p + d, by omega, by omega, by rw [wordsAt_shift, ← h3]; rfl⟩, areL_shift d h⟩
  | [], _ :: _, h => h.elim
  | _ :: _, [], h => h.elim
theorem areL_len {N : Int} : ∀ {a : List Ln} {u : List (List ByteArray)}, AreL N a u → a.length = u.length
  | [], [], _ => rfl
  | _ :: a, _ :: u, h => by rw [List.length_cons, List.length_cons, areL_len h.2]
  | [], _ :: _, h => h.elim
  | _ :: _, [], h => h.elim
theorem wrongS_chars : ∀ (l : List Int) (word : Bool) (i : Int), 0 ≤ i → wrongS word i l = -1 → ∀ c ∈ l, plainC c = true ∨ c = 32
  | [], _, _, _, _, c, hc => by cases hc
  | x :: l, word, i, hi, h, c, hc => by
    rw [wrongS] at h
    split at h
    · rename_i hp
      rcases List.mem_cons.1 hc with rfl | hc
      · exact .inl hp
      · exact wrongS_chars l true (i + 1) (by omega) h c hc
    · split at h
      · rename_i hq
        rcases List.mem_cons.1 hc with rfl | hc
        · exact .inr hq.1
        · exact wrongS_chars l false (i + 1) (by omega) h c hc
      · omega
theorem pieces_mem : ∀ (bs : List UInt8), ∀ q ∈ pieces 32 bs, ∀ c ∈ q, c ∈ bs ∧ c ≠ 32
  | [], q, hq, c, hc => by
    rw [pieces, List.mem_singleton] at hq
    subst hq
    cases hc
  | x :: l, q, hq, c, hc => by
    have ih := pieces_mem l
    rw [pieces] at hq
    by_cases e : (x == 32) = true
    · rw [if_pos e] at hq
      rcases List.mem_cons.1 hq with rfl | hq
      · cases hc
      · exact ⟨List.mem_cons_of_mem _ (ih q hq c hc).1, (ih q hq c hc).2⟩
    · rw [if_neg e] at hq
      have hx : x ≠ 32 := fun h => e (beq_iff_eq.2 h)
      cases hp : pieces 32 l with
      | nil =>
        rw [hp] at hq
        obtain rfl := List.mem_singleton.1 hq
        obtain rfl := List.mem_singleton.1 hc
        exact ⟨List.mem_cons_self, hx⟩
      | cons z zs =>
        rw [hp] at hq ih
        rcases List.mem_cons.1 hq with rfl | hq
        · rcases List.mem_cons.1 hc with rfl | hc
          · exact ⟨List.mem_cons_self, hx⟩
          · exact ⟨List.mem_cons_of_mem _ (ih z List.mem_cons_self c hc).1, (ih z List.mem_cons_self c hc).2⟩
        · exact ⟨List.mem_cons_of_mem _ (ih q (List.mem_cons_of_mem _ hq) c hc).1, (ih q (List.mem_cons_of_mem _ hq) c hc).2⟩
/-- A line that is one: its words. -/
theorem verdict_words {p : Nat} {L : List Int} {s : Ln} (hu : isU8 L = true) (h : verdict (p, L) = .line s) : ∃ w, GoodWs w ∧ s.f1 = wordsAt p w ∧ (joinB w).size = L.length := by
  unfold verdict at h
  dsimp only at h
  by_cases c1 : 65536 < L.length
  · rw [if_pos c1] at h; cases h
  · rw [if_neg c1] at h
    by_cases c2 : L.isEmpty ∨ L.headD 0 = 35
    · rw [if_pos c2] at h; cases h
    · rw [if_neg c2] at h
      by_cases c3 : 0 ≤ wrongS false 0 L
      · rw [if_pos c3] at h; cases h
      · rw [if_neg c3] at h
        simp only [Verdict.line.injEq] at h
        subst h
        have hw : wrongS false 0 L = -1 := by
          rcases wrongS_range L false 0 with h | h
          · exact h
          · have := h.1
            simp only [Int.natCast_zero] at this
            exact absurd this c3
        have hj := joinB_pieces (strOfNums L)
        have hsz : (strOfNums L).size = L.length := strOfNums_size L
        have hb := bytes_strOf L hu
        have hL0 : L ≠ [] := fun e => c2 (.inl (by rw [e]; rfl))
        have hLp : 0 < L.length := List.length_pos_iff.2 hL0
        have hfull := piecesB_full L hu hw
        refine ⟨piecesB (strOfNums L), ⟨?_, ?_, ?_, ?_⟩, rfl, ?_⟩
        · intro e
          have h1 := piecesB_sum (strOfNums L)
          rw [e, hsz] at h1
          simp [sumB] at h1
        · intro x hx
          unfold goodW plainW
          simp only [Bool.and_eq_true, decide_eq_true_eq, List.all_eq_true]
          refine ⟨by have := hfull x hx; omega, fun c hc => ?_⟩
          unfold piecesB at hx
          obtain ⟨q, hq, rfl⟩ := List.mem_map.1 hx
          obtain ⟨hm, h32⟩ := pieces_mem _ q hq c hc
          have hmem : ((c.toNat : Int)) ∈ L := by
            rw [← hb]
            unfold bytesOf
            exact List.mem_map.2 ⟨c, hm, rfl⟩
          rcases wrongS_chars L false 0 (by omega) hw _ hmem with hp | hp
          · unfold plainC at hp
            simp only [Bool.and_eq_true, decide_eq_true_eq] at hp
            omega
          · exfalso
            apply h32
            apply UInt8.toNat.inj
            have : (32 : UInt8).toNat = 32 := rfl
            omega
        · rw [hj, ← headD_bt _ (by omega), hb]
          exact fun e => c2 (.inr e)
        · rw [hj, hsz]
          omega
        · rw [hj, hsz]
theorem isU8_drop {l : List Int} (h : isU8 l = true) (n : Nat) : isU8 (l.drop n) = true := List.all_eq_true.2 fun x hx => List.all_eq_true.1 h x (List.mem_of_mem_drop hx)
theorem isU8_line {l : List Int} (h : isU8 l = true) : isU8 (lineOf l) = true := List.all_eq_true.2 fun x hx => List.all_eq_true.1 h x (List.takeWhile_subset _ hx)
theorem lines_words (l : List Int) (hu : isU8 l = true) : ∀ xs : List (Nat × List Int), (∀ x ∈ xs, x.2 = lineOf (l.drop x.1) ∧ x.1 < l.length) → (linesOf xs).2.1 = 0 →
    ∃ ws, AreL l.length (linesOf xs).1 ws ∧ (∀ w ∈ ws, GoodWs w) ∧ (ws.map (fun w => (joinB w).size + 1)).sum ≤ (xs.map (fun x => x.2.length + 1)).sum
  | [], _, _ => ⟨[], trivial, fun w hw => (by cases hw), Nat.le_refl _⟩
  | x :: xs, hx, h0 => by
    have ih := lines_words l hu xs (fun y hy => hx y (List.mem_cons_of_mem _ hy))
    obtain ⟨h2, h1⟩ := hx x List.mem_cons_self
    have hl := lineOf_le (l.drop x.1)
    rw [← h2, List.length_drop] at hl
    rw [linesOf_cons] at h0 ⊢
    obtain ⟨xp, xl⟩ := x
    cases hv : verdict (xp, xl) with
    | skip =>
      rw [hv] at h0
      obtain ⟨ws, a1, a2, a3⟩ := ih h0
      exact ⟨ws, a1, a2, by rw [List.map_cons, List.sum_cons]; omega⟩
    | bad e p =>
      rw [hv] at h0
      exfalso
      dsimp only at h0
      unfold verdict at hv
      split at hv
      · cases hv; omega
      · split at hv
        · cases hv
        · split at hv
          · cases hv; omega
          · cases hv
    | line s =>
      rw [hv] at h0
      dsimp only at h0 ⊢ h1 h2 hl
      by_cases c : (linesOf xs).2.1 = 0
      · rw [if_pos c]
        obtain ⟨ws, a1, a2, a3⟩ := ih c
        obtain ⟨w, b1, b2, b3⟩ := verdict_words (by rw [h2]; exact isU8_line (isU8_drop hu _)) hv
        refine ⟨w :: ws, ⟨⟨xp, by omega, by omega, b2⟩, a1⟩, fun z hz => ?_, ?_⟩
        · rcases List.mem_cons.1 hz with rfl | hz
          · exact b1
          · exact a2 z hz
        · rw [List.map_cons, List.map_cons, List.sum_cons, List.sum_cons, b3]
          dsimp only
          omega
      · rw [if_neg c] at h0
        exact absurd h0 c
theorem cutF_sum : ∀ (f p : Nat) (l : List Int), ((cutF f p l).map (fun x => x.2.length + 1)).sum ≤ l.length + 1 ∧ (l = [] → ((cutF f p l).map (fun x => x.2.length + 1)).sum = 0)
  | 0, _, _ => ⟨Nat.zero_le _, fun _ => rfl⟩
  | f + 1, p, l => by
    by_cases c : l = []
    · subst c
      exact ⟨Nat.zero_le _, fun _ => rfl⟩
    · refine ⟨?_, fun h => absurd h c⟩
      rw [cutF_cons f p l c, List.map_cons, List.sum_cons]
      have hl := lineOf_le l
      obtain ⟨h1, h2⟩ := cutF_sum f (p + (lineOf l).length + 1) (l.drop ((lineOf l).length + 1))
      rw [List.length_drop] at h1
      by_cases d : (lineOf l).length + 1 ≤ l.length
      · dsimp only
        omega
      · have h3 := h2 (List.drop_eq_nil_of_le (by omega))
        dsimp only
        omega
theorem LN_words (l : List Int) (hu : isU8 l = true) (h0 : (LN l).2.1 = 0) : ∃ ws, AreL l.length (LN l).1 ws ∧ (∀ w ∈ ws, GoodWs w) ∧ (ws.map (fun w => (joinB w).size + 1)).sum ≤ l.length + 1 := by
  have hm := cutF_mem l (l.length + 1) 0
  rw [List.drop_zero] at hm
  obtain ⟨ws, h1, h2, h3⟩ := lines_words l hu (cutF (l.length + 1) 0 l) hm h0
  exact ⟨ws, h1, h2, by have := (cutF_sum (l.length + 1) 0 l).1; omega⟩
theorem LN_fault (l : List Int) : 0 ≤ (LN l).2.2 ∧ (LN l).2.2 ≤ l.length := by
  have hm := cutF_mem l (l.length + 1) 0
  rw [List.drop_zero] at hm
  exact fault_in l (cutF (l.length + 1) 0 l) hm
/-! The events of lines. -/
def Reads : List (List ByteArray) → List Ev → Prop
  | [], [] => True
  | w :: ws, e :: es => (wordsE e = w ∧ ckE e = some 0 ∧ NumE e) ∧ Reads ws es
  | _, _ => False
theorem evs_spec {N : Int} : ∀ {ls : List Ln} {ws : List (List ByteArray)}, AreL N ls ws → (∀ w ∈ ws, GoodWs w) →
    (∃ es, evsL ls = some (.inl es) ∧ Reads ws es) ∨ (∃ E P : Int, evsL ls = some (.inr (E, P)) ∧ E ≠ 0 ∧ 0 ≤ P ∧ P ≤ N)
  | [], [], _, _ => .inl ⟨[], rfl, trivial⟩
  | s :: ls, w :: ws, ⟨⟨p, h1, h2, h3⟩, h⟩, hg => by
    rw [evsL, h3]
    rcases read_spec w (hg w List.mem_cons_self) with ⟨ev, hr, hc, hn, hw⟩ | ⟨E, d, hE, hd, hr⟩
    · rw [hr]
      dsimp only
      rcases evs_spec h (fun z hz => hg z (List.mem_cons_of_mem _ hz)) with ⟨es, he, hre⟩ | ⟨E, P, he, h4⟩
      · rw [he]
        exact .inl ⟨ev :: es, rfl, ⟨hw, hc, hn⟩, hre⟩
      · rw [he]
        exact .inr ⟨E, P, rfl, h4⟩
    · rw [hr]
      exact .inr ⟨E, p + d, rfl, hE, by omega, by omega⟩
  | [], _ :: _, h, _ => h.elim
  | _ :: _, [], h, _ => h.elim
theorem okLns_of {N : Int} (hN : N ≤ 70000000) : ∀ {ls : List Ln} {ws : List (List ByteArray)}, AreL N ls ws → (∀ w ∈ ws, GoodWs w) → ls.length ≤ 1000000000 → okLns ls = true := by
  have key : ∀ {ls : List Ln} {ws : List (List ByteArray)}, AreL N ls ws → (∀ w ∈ ws, GoodWs w) → ls.all (fun x => okLn x.f1) = true := by
    intro ls
    induction ls with
    | nil => intro ws h hg; rfl
    | cons s ls ih =>
      intro ws h hg
      cases ws with
      | nil => exact h.elim
      | cons w ws =>
        obtain ⟨⟨p, h1, h2, h3⟩, h⟩ := h
        rw [List.all_cons, Bool.and_eq_true]
        refine ⟨?_, ih h (fun z hz => hg z (List.mem_cons_of_mem _ hz))⟩
        obtain ⟨hne, hgw, _, hsz⟩ := hg w List.mem_cons_self
        have hj := join_size w hne
        have hpos : 0 < w.length := List.length_pos_iff.2 hne
        rw [h3]
        unfold okLn
        simp only [Bool.and_eq_true, decide_eq_true_eq, List.all_eq_true]
        refine ⟨⟨⟨by rw [wordsAt_len]; exact hpos, by rw [wordsAt_len]; omega⟩, ?_⟩, fun x hx => ?_⟩
        · have e : ((wordsAt p w).map (fun x => x.f0.size + 1)) = w.map (fun y => y.size + 1) := by
            have := congrArg (List.map (fun y : ByteArray => y.size + 1)) (wordsAt_texts w p)
            rw [List.map_map] at this
            exact this
          have e2 : ∀ l : List ByteArray, (l.map (fun y => y.size + 1)).sum = sumS l + l.length := by
            intro l
            induction l with
            | nil => rfl
            | cons y l ih => rw [List.map_cons, List.sum_cons, ih, sumS_cons, List.length_cons]; omega
          rw [e, e2]
          omega
        · obtain ⟨i, hi, rfl⟩ := List.getElem_of_mem hx
          rw [wordsAt_len] at hi
          have h5 := wordsAt_at w p i hi
          have h6 : (wordsAt p w)[i]'(by rw [wordsAt_len]; exact hi) = ⟨w[i], p + sumS (w.take i) + i⟩ := by
            rw [List.getElem?_eq_getElem (by rw [wordsAt_len]; exact hi)] at h5
            exact Option.some.inj h5
          have h7 := sumS_take_le w (i + 1)
          rw [List.take_succ_eq_append_getElem hi, sumS_app] at h7
          have h8 : sumS [w[i]] = w[i].size := by simp [sumS]
          rw [h6]
          dsimp only
          omega
  intro ls ws h hg hl
  unfold okLns
  simp only [Bool.and_eq_true, decide_eq_true_eq]
  exact ⟨hl, key h hg⟩
/-- What Parse tells of a text. -/
theorem parse_spec (l : List Int) (hu : isU8 l = true) (hl : l.length ≤ 67108864) :
    (∃ ws es, grammar_Parse.f l = some (es, 0, 0) ∧ AreL l.length (LN l).1 ws ∧ (LN l).2.1 = 0 ∧ evsL (LN l).1 = some (.inl es) ∧ Reads ws es ∧ (∀ w ∈ ws, GoodWs w) ∧ (ws.map (fun w => (joinB w).size + 1)).sum ≤ l.length + 1) ∨
    (∃ E P : Int, grammar_Parse.f l = some ([], E, P) ∧ E ≠ 0 ∧ 0 ≤ P ∧ P ≤ l.length ∧ (((LN l).2.1 = E ∧ (LN l).2.1 ≠ 0) ∨ ((LN l).2.1 = 0 ∧ evsL (LN l).1 = some (.inr (E, P)) ∧ ∃ ws, AreL l.length (LN l).1 ws ∧ ∀ w ∈ ws, GoodWs w))) := by
  have hcut := cutF_length l (l.length + 1) 0
  rw [List.drop_zero] at hcut
  have hm := cutF_mem l (l.length + 1) 0
  rw [List.drop_zero] at hm
  have hlen : (LN l).1.length ≤ l.length := by
    have := (linesOf_in l (cutF (l.length + 1) 0 l) hm).2.1
    unfold LN
    omega
  have hf := LN_fault l
  have hcs := linesOf_cases (cutF (l.length + 1) 0 l)
  unfold grammar_Parse.f
  rw [lines_f l hu hl, Option.bind_some]
  by_cases h0 : (LN l).2.1 = 0
  · rw [if_pos h0]
    obtain ⟨ws, h1, h2, h3⟩ := LN_words l hu h0
    have hp0 : (LN l).2.2 = 0 := by
      rcases hcs with h | h
      · exact h.2
      · exact absurd h0 h.1
    rw [if_pos (okLns_of (by omega) h1 h2 (by omega))]
    rcases evs_spec h1 h2 with ⟨es, he, hr⟩ | ⟨E, P, he, hE, hP0, hP1⟩
    · refine .inl ⟨ws, es, ?_, h1, h0, he, hr, h2, h3⟩
      rw [he, hp0]
    · refine .inr ⟨E, P, ?_, hE, hP0, hP1, .inr ⟨h0, he, ws, h1, h2⟩⟩
      rw [he]
  · rw [if_neg h0]
    exact .inr ⟨(LN l).2.1, (LN l).2.2, rfl, h0, hf.1, hf.2, .inl ⟨rfl, h0⟩⟩
/-! What is printed. -/
def textU (es : List Ev) : List UInt8 := es.flatMap fun x => (joinB (wordsE x)).data.toList ++ [10]
theorem textU_cons (x : Ev) (es : List Ev) : textU (x :: es) = ((joinB (wordsE x)).data.toList ++ [10]) ++ textU es := by
  unfold textU
  rw [List.flatMap_cons]
theorem print_good : ∀ (es : List Ev) (acc : List UInt8), (∀ x ∈ es, ckE x = some 0 ∧ NumE x) → acc.length + (textU es).length ≤ 67108864 → printG es false acc = some (⟨(acc ++ textU es).toArray⟩, 0)
  | [], acc, _, h => by
    rw [textU, List.flatMap_nil, List.length_nil] at h
    rw [printG, if_pos (by omega), if_neg (by simp; omega), textU, List.flatMap_nil, List.append_nil]
  | x :: es, acc, hx, h => by
    obtain ⟨hc, hn⟩ := hx x List.mem_cons_self
    have hs := line_size hc hn
    rw [textU_cons, List.length_append, List.length_append, show (joinB (wordsE x)).data.toList.length = (joinB (wordsE x)).size from rfl, List.length_singleton] at h
    rw [printG, line_ok hc hn, Option.bind_some, if_pos rfl, if_pos (by dsimp only; omega), show (false || decide (65536 < ((joinB (wordsE x)), (0 : Int)).1.size)) = false by simp; omega]
    rw [print_good es ((acc ++ (joinB (wordsE x)).data.toList) ++ [10]) (fun y hy => hx y (List.mem_cons_of_mem _ hy)) (by rw [List.length_append, List.length_append, show (joinB (wordsE x)).data.toList.length = (joinB (wordsE x)).size from rfl, List.length_singleton]; omega), textU_cons]
    simp only [List.append_assoc]
theorem LN_line {w : List ByteArray} (hg : GoodWs w) : LN (bytesOf (joinB w) ++ [10]) = ([⟨0, wordsAt 0 w⟩], 0, 0) := by
  obtain ⟨hne, hgw, h35, hsz⟩ := hg
  have hv := verdict_join w hne hgw h35 hsz 0
  have hlo : lineOf (bytesOf (joinB w) ++ [10]) = bytesOf (joinB w) := by
    have h10 := join_no10 w hgw
    generalize bytesOf (joinB w) = L at h10
    induction L with
    | nil => rfl
    | cons c L ih =>
      have := h10 c List.mem_cons_self
      unfold lineOf at ih ⊢
      rw [List.cons_append, List.takeWhile_cons, if_pos (by simpa using this), ih (fun x hx => h10 x (List.mem_cons_of_mem _ hx))]
  unfold LN
  rw [cutF_cons _ _ _ (by simp), hlo, List.drop_of_length_le (by simp), cutF_nil, linesOf_cons, hv]
  rfl
theorem textI_cons (x : Ev) (es : List Ev) : bytesOf ⟨(textU (x :: es)).toArray⟩ = bytesOf (joinB (wordsE x)) ++ [10] ++ bytesOf ⟨(textU es).toArray⟩ := by
  rw [textU_cons]
  unfold bytesOf
  simp
theorem good_words {x : Ev} (hc : ckE x = some 0) (hn : NumE x) : GoodWs (wordsE x) := by
  obtain ⟨h1, h2⟩ := line_size hc hn
  exact ⟨by simp [wordsE], (wordsE_good hc hn).1, h2, by omega⟩
theorem LN_text : ∀ (es : List Ev), (∀ x ∈ es, ckE x = some 0 ∧ NumE x) → (LN (bytesOf ⟨(textU es).toArray⟩)).2.1 = 0 ∧ evsL (LN (bytesOf ⟨(textU es).toArray⟩)).1 = some (.inl es) ∧ ∃ N : Int, AreL N (LN (bytesOf ⟨(textU es).toArray⟩)).1 (es.map wordsE)
  | [], _ => ⟨rfl, rfl, 0, trivial⟩
  | x :: es, hx => by
    obtain ⟨hc, hn⟩ := hx x List.mem_cons_self
    obtain ⟨h1, h2, N, h3⟩ := LN_text es (fun y hy => hx y (List.mem_cons_of_mem _ hy))
    have hg := good_words hc hn
    have hl := LN_line hg
    rw [textI_cons, LN_two, hl, if_pos rfl, if_pos h1]
    generalize hd : (bytesOf (joinB (wordsE x)) ++ [10]).length = d
    have hsh := areL_shift d h3
    have hshe : ∀ {ls : List Ln} {es : List Ev} {N : Int}, AreL N ls (es.map wordsE) → (∀ x ∈ es, ckE x = some 0 ∧ NumE x) → evsL ls = some (.inl es) := by
      intro ls
      induction ls with
      | nil =>
        intro es N h _
        cases es with
        | nil => rfl
        | cons => exact h.elim
      | cons s ls ih =>
        intro es N h hq
        cases es with
        | nil => exact h.elim
        | cons y es =>
          obtain ⟨⟨p, _, _, e3⟩, h⟩ := h
          rw [evsL, e3, read_words (hq y List.mem_cons_self).1 (hq y List.mem_cons_self).2]
          dsimp only
          rw [ih h (fun z hz => hq z (List.mem_cons_of_mem _ hz))]
    have hone : AreL (max ((joinB (wordsE x)).size : Int) (N + d)) ([(⟨0, wordsAt 0 (wordsE x)⟩ : Ln)] ++ (LN (bytesOf ⟨(textU es).toArray⟩)).1.map (shL d)) ((x :: es).map wordsE) :=
      ⟨⟨0, by omega, by omega, rfl⟩, areL_mono (by omega) hsh⟩
    exact ⟨rfl, hshe hone hx, _, hone⟩
theorem textU_u8 (es : List Ev) : isU8 (bytesOf ⟨(textU es).toArray⟩) = true := bytesOf_u8 _
theorem textU_len (es : List Ev) : (bytesOf ⟨(textU es).toArray⟩).length = (textU es).length := by rw [bytesOf_len]; rfl
/-- What is printed is parsed as it was. -/
theorem parse_print (es : List Ev) (hx : ∀ x ∈ es, ckE x = some 0 ∧ NumE x) (hl : (textU es).length ≤ 67108864) : grammar_Parse.f (bytesOf ⟨(textU es).toArray⟩) = some (es, 0, 0) := by
  obtain ⟨h1, h2, _⟩ := LN_text es hx
  rcases parse_spec (bytesOf ⟨(textU es).toArray⟩) (textU_u8 es) (by rw [textU_len]; exact hl) with ⟨ws, fs, hp, _, _, he, _⟩ | ⟨E, P, _, _, _, _, h | ⟨_, he, _⟩⟩
  · rw [h2] at he
    cases he
    exact hp
  · exact absurd h1 h.2
  · rw [h2] at he
    cases he
theorem print_f (es : List Ev) (hx : ∀ x ∈ es, ckE x = some 0 ∧ NumE x) (hl : (textU es).length ≤ 67108864) : grammar_Print.f es = some (⟨(textU es).toArray⟩, 0) := by
  have hlen : es.length ≤ (textU es).length := by
    clear hx hl
    induction es with
    | nil => exact Nat.zero_le _
    | cons x es ih => rw [textU_cons, List.length_append, List.length_append, List.length_cons, List.length_singleton]; omega
  unfold grammar_Print.f
  rw [if_pos (by omega), print_good es [] hx (by simpa using hl), List.nil_append]
end Go.Proofs.YtkjnbfjbdlcehaaGreatDoor.P.Z12
