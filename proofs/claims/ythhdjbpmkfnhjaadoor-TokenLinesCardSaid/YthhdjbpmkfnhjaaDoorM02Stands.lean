/- Where lines and words stand in a text: plain law. -/
import Derived.Test.YthhdjbpmkfnhjaaDoorM02Back
namespace Go.Proofs.YthhdjbpmkfnhjaaDoor.Pure
open Go.RowKit Go.Proofs.YthhdjbpmkfnhjaaDoor.P Go.Proofs.YthhdjbpmkfnhjaaDoorW.PrintWords Go.Proofs.YthhdjbpmkfnhjaaDoorW.PrintLast
def okLine (l : List Int) (x : S34) (p : Nat) (ws : List ByteArray) : Prop :=
  x = ⟨p, wordsAt p ws⟩ ∧ ws ≠ [] ∧ (p = 0 ∨ l[p - 1]? = some 10) ∧ p + sumS ws + ws.length ≤ l.length + 1 ∧
  (∀ (k : Nat) (h : k < ws.length), 0 < ws[k].size ∧ p + sumS (ws.take k) + k + ws[k].size ≤ l.length ∧ strOfNums ((l.drop (p + sumS (ws.take k) + k)).take ws[k].size) = ws[k]) ∧
  (l[p + sumS ws + ws.length - 1]? = none ∨ l[p + sumS ws + ws.length - 1]? = some 10)
def chain (l : List Int) : Int → List S34 → Prop
  | _, [] => True
  | last, x :: xs => ∃ (p : Nat) (ws : List ByteArray), okLine l x p ws ∧ last < (p : Int) ∧ chain l ((p : Int) + sumS ws + ws.length - 1) xs
theorem bytes_strOf (L : List Int) (h : isU8 L = true) : bytesOf (strOfNums L) = L := by
  unfold bytesOf strOfNums
  simp only [List.map_map]
  refine (List.map_congr_left (g := id) (fun x hx => ?_)).trans (List.map_id _)
  have := isU8_mem h hx
  simp
  omega
theorem lineOf_end (m : List Int) : m[(lineOf m).length]? = none ∨ m[(lineOf m).length]? = some 10 := by
  induction m with
  | nil => exact .inl rfl
  | cons x m ih =>
    unfold lineOf at ih ⊢
    rw [List.takeWhile_cons]
    by_cases c : x = 10
    · subst c
      exact .inr (by simp)
    · rw [if_pos (by simp [c])]
      simpa using ih
theorem join_pieces : ∀ bs : List UInt8, Lib.join (pieces 32 bs) [32] = bs
  | [] => rfl
  | c :: l => by
    have ih := join_pieces l
    rw [pieces_cons]
    by_cases e : (c == 32) = true
    · rw [if_pos e, beq_iff_eq.1 e]
      match hp : pieces 32 l with
      | [] => exact absurd hp (pieces_ne 32 l)
      | q :: qs =>
        rw [hp] at ih
        have : Lib.join ([] :: q :: qs) [32] = 32 :: Lib.join (q :: qs) [32] := by
          simp [Lib.join, List.intercalate, List.intersperse_cons_cons]
        rw [this, ih]
    · rw [if_neg e]
      match hp : pieces 32 l with
      | [] => exact absurd hp (pieces_ne 32 l)
      | [q] =>
        rw [hp] at ih
        have h1 : Lib.join [q] [32] = q := by simp [Lib.join, List.intercalate]
        have h2 : Lib.join [c :: q] [32] = c :: q := by simp [Lib.join, List.intercalate]
        rw [h1] at ih
        show Lib.join [c :: q] [32] = _
        rw [h2, ih]
      | q :: r :: qs =>
        rw [hp] at ih
        have h1 : ∀ a : List UInt8, Lib.join (a :: r :: qs) [32] = a ++ 32 :: Lib.join (r :: qs) [32] := fun a => by
          simp [Lib.join, List.intercalate, List.intersperse_cons_cons]
        rw [h1] at ih
        show Lib.join ((c :: q) :: r :: qs) [32] = _
        rw [h1, List.cons_append, ih]
theorem joinB_pieces (s : ByteArray) : joinB (piecesB s) = s := by
  apply b_ext
  rw [joinB_data]
  unfold piecesB
  simp only [List.map_map]
  have : (pieces 32 s.data.toList).map ((fun x : ByteArray => x.data.toList) ∘ fun l : List UInt8 => (⟨l.toArray⟩ : ByteArray)) = pieces 32 s.data.toList := List.map_id _
  rw [this]
  exact join_pieces _
theorem pieces_full : ∀ (bs : List UInt8) (word : Bool) (i : Int), 0 ≤ i → wrongS word i (bs.map fun b => (b.toNat : Int)) = -1 →
    ∃ q qs, pieces 32 bs = q :: qs ∧ (word = true ∨ q ≠ []) ∧ ∀ p ∈ qs, p ≠ []
  | [], word, i, hi, h => by
    refine ⟨[], [], rfl, .inl ?_, fun p hp => by cases hp⟩
    rw [List.map_nil, wrongS] at h
    split at h
    · assumption
    · omega
  | c :: l, word, i, hi, h => by
    rw [List.map_cons, wrongS] at h
    rw [pieces_cons]
    by_cases e : (c == 32) = true
    · rw [if_pos e]
      have ec := beq_iff_eq.1 e
      subst ec
      rw [if_neg (by decide)] at h
      by_cases hw : word = true
      · rw [if_pos ⟨rfl, hw⟩] at h
        obtain ⟨q, qs, h1, h2, h3⟩ := pieces_full l false (i + 1) (by omega) h
        refine ⟨[], pieces 32 l, rfl, .inl hw, fun p hp => ?_⟩
        rw [h1] at hp
        rcases List.mem_cons.1 hp with rfl | hp
        · rcases h2 with h2 | h2
          · cases h2
          · exact h2
        · exact h3 p hp
      · rw [if_neg (fun x => hw x.2)] at h
        omega
    · rw [if_neg e]
      have hne : ¬ ((c.toNat : Int) = 32) := by
        intro x
        apply e
        rw [beq_iff_eq]
        apply UInt8.toNat.inj
        have : (32 : UInt8).toNat = 32 := rfl
        omega
      split at h
      · obtain ⟨q, qs, h1, h2, h3⟩ := pieces_full l true (i + 1) (by omega) h
        rw [h1]
        exact ⟨c :: q, qs, rfl, .inr (by simp), h3⟩
      · rw [if_neg (fun x => hne x.1)] at h
        omega
theorem piecesB_full (L : List Int) (hu : isU8 L = true) (h : wrongS false 0 L = -1) : ∀ w ∈ piecesB (strOfNums L), 0 < w.size := by
  have hb := bytes_strOf L hu
  rw [← hb] at h
  obtain ⟨q, qs, h1, h2, h3⟩ := pieces_full (strOfNums L).data.toList false 0 (by omega) h
  intro w hw
  unfold piecesB at hw
  rw [h1] at hw
  obtain ⟨z, hz, rfl⟩ := List.mem_map.1 hw
  have : z ≠ [] := by
    rcases List.mem_cons.1 hz with rfl | hz
    · rcases h2 with h2 | h2
      · cases h2
      · exact h2
    · exact h3 z hz
  exact List.length_pos_iff.2 this
theorem sumS_take_le (ws : List ByteArray) (k : Nat) (h : k < ws.length) : sumS (ws.take k) + ws[k].size ≤ sumS ws := by
  have h1 : sumS ws = sumS (ws.take k) + sumS (ws.drop k) := by rw [← sumS_app, List.take_append_drop]
  rw [List.drop_eq_getElem_cons h, sumS_cons] at h1
  omega
theorem join_at : ∀ (ws : List ByteArray) (k : Nat) (h : k < ws.length), ((joinB ws).data.toList.drop (sumS (ws.take k) + k)).take ws[k].size = ws[k].data.toList
  | [], k, h => by simp at h
  | [w], k, h => by
    obtain rfl : k = 0 := by simpa using h
    rw [joinB_one]
    simp only [List.take_zero, List.getElem_cons_zero]
    show (w.data.toList.drop (sumS [] + 0)).take w.data.toList.length = _
    have : sumS [] + 0 = 0 := rfl
    rw [this, List.drop_zero, List.take_length]
  | w :: y :: r, 0, h => by
    rw [joinB_cons, app_data]
    simp only [List.take_zero, List.getElem_cons_zero]
    show ((w.data.toList ++ _).drop (sumS [] + 0)).take w.data.toList.length = _
    have : sumS [] + 0 = 0 := rfl
    rw [this, List.drop_zero, List.take_append_of_le_length (Nat.le_refl _), List.take_length]
  | w :: y :: r, k + 1, h => by
    have ih := join_at (y :: r) k (by simpa using h)
    rw [joinB_cons, app_data, app_data, List.take_succ_cons, sumS_cons]
    have e : w.size + sumS ((y :: r).take k) + (k + 1) = w.data.toList.length + (1 + (sumS ((y :: r).take k) + k)) := by
      have : w.data.toList.length = w.size := rfl
      omega
    rw [e, List.getElem_cons_succ, ← List.drop_drop, List.drop_left, ← List.drop_drop]
    exact ih
theorem okLine_of (l : List Int) (hu : isU8 l = true) (p : Nat) (hp : p < l.length) (hb : p = 0 ∨ l[p - 1]? = some 10) (s : S34) (hv : verdict (p, lineOf (l.drop p)) = .line s) :
    ∃ ws, okLine l s p ws ∧ p + sumS ws + ws.length = p + (lineOf (l.drop p)).length + 1 := by
  have hend := lineOf_end (l.drop p)
  have hle := lineOf_le (l.drop p)
  have htk := lineOf_take (l.drop p)
  have huL : isU8 (lineOf (l.drop p)) = true := by rw [htk]; exact isU8_take (isU8_drop hu _) _
  generalize hL : lineOf (l.drop p) = L at *
  rw [List.length_drop] at hle
  rw [List.getElem?_drop] at hend
  unfold verdict at hv
  dsimp only at hv
  split at hv
  · cases hv
  · split at hv
    · cases hv
    · split at hv
      · cases hv
      · rename_i hno
        have hw1 : wrongS false 0 L = -1 := by
          have := wrongS_range L false 0
          simp only [Int.natCast_zero] at this
          omega
        cases hv
        have hfull := piecesB_full L huL hw1
        have hjoin := joinB_pieces (strOfNums L)
        have hbs := bytes_strOf L huL
        have hne : piecesB (strOfNums L) ≠ [] := by
          unfold piecesB
          intro e
          exact pieces_ne 32 _ (List.map_eq_nil_iff.1 e)
        generalize piecesB (strOfNums L) = ws at *
        have hsize := join_size ws hne
        have hLs : (joinB ws).size = L.length := by rw [hjoin, strOfNums_size]
        refine ⟨ws, ⟨rfl, hne, hb, by omega, fun k hk => ?_, ?_⟩, by omega⟩
        · have h1 := hfull ws[k] (List.getElem_mem hk)
          have h2 := sumS_take_le ws k hk
          have h3 := join_at ws k hk
          refine ⟨h1, by omega, ?_⟩
          have e1 : (l.drop (p + sumS (ws.take k) + k)).take ws[k].size = (L.drop (sumS (ws.take k) + k)).take ws[k].size := by
            rw [htk, List.drop_take, List.drop_drop, List.take_take, Nat.add_assoc]
            congr 1
            omega
          have e2 : (L.drop (sumS (ws.take k) + k)).take ws[k].size = bytesOf ws[k] := by
            rw [← hbs, ← hjoin]
            unfold bytesOf
            rw [← List.map_drop, ← List.map_take, h3]
          rw [e1, e2, strOf_bytes]
        · rw [show p + sumS ws + ws.length - 1 = p + L.length by omega]
          exact hend
theorem chain_of (l : List Int) (hu : isU8 l = true) : ∀ (f p : Nat) (last : Int), last < (p : Int) → (p ≤ l.length → p = 0 ∨ l[p - 1]? = some 10) → (linesOf (cutF f p (l.drop p))).2.1 = 0 → chain l last (linesOf (cutF f p (l.drop p))).1
  | 0, p, last, _, _, _ => trivial
  | f + 1, p, last, hlast, hp, h => by
    rw [cutF] at h ⊢
    by_cases c : (l.drop p).isEmpty = true
    · rw [if_pos c]
      trivial
    · rw [if_neg c] at h ⊢
      have hpl : p < l.length := by
        apply Nat.lt_of_not_le
        intro hle
        rw [List.drop_of_length_le hle] at c
        exact c rfl
      have hend := lineOf_end (l.drop p)
      rw [List.getElem?_drop] at hend
      have ed : (l.drop p).drop ((lineOf (l.drop p)).length + 1) = l.drop (p + (lineOf (l.drop p)).length + 1) := by rw [List.drop_drop, Nat.add_assoc]
      rw [ed] at h ⊢
      have ih := fun last hl => chain_of l hu f (p + (lineOf (l.drop p)).length + 1) last hl (fun hle => by
        right
        rw [show p + (lineOf (l.drop p)).length + 1 - 1 = p + (lineOf (l.drop p)).length by omega]
        rcases hend with hend | hend
        · rw [List.getElem?_eq_none_iff] at hend
          omega
        · exact hend)
      rw [linesOf_cons] at h ⊢
      cases hv : verdict (p, lineOf (l.drop p)) with
      | skip =>
        rw [hv] at h
        exact ih last (by omega) h
      | bad e q =>
        exact trivial
      | line s =>
        rw [hv] at h
        dsimp only at h ⊢
        obtain ⟨ws, hok, hlen⟩ := okLine_of l hu p hpl (hp (by omega)) s hv
        split at h
        · rename_i h0
          rw [if_pos h0]
          refine ⟨p, ws, hok, hlast, ih _ (by omega) h0⟩
        · rename_i h0
          exact absurd h h0
theorem fault_in (bs : List Int) : ∀ xs : List (Nat × List Int), (∀ x ∈ xs, x.2 = lineOf (bs.drop x.1) ∧ x.1 < bs.length) → 0 ≤ (linesOf xs).2.2 ∧ (linesOf xs).2.2 ≤ bs.length
  | [], _ => ⟨Int.le_refl _, by show (0 : Int) ≤ _; omega⟩
  | x :: xs, h => by
    obtain ⟨i3, i4⟩ := fault_in bs xs (fun y hy => h y (List.mem_cons_of_mem _ hy))
    obtain ⟨h2, h1⟩ := h x List.mem_cons_self
    have hl := lineOf_le (bs.drop x.1)
    rw [← h2, List.length_drop] at hl
    rw [linesOf_cons]
    cases hv : verdict x with
    | skip => exact ⟨i3, i4⟩
    | bad e p =>
      have hr := wrongS_range x.2 false 0
      simp only [Int.natCast_zero, Int.zero_add] at hr
      unfold verdict at hv
      split at hv
      · cases hv
        dsimp only
        omega
      · split at hv
        · cases hv
        · split at hv
          · cases hv
            dsimp only
            omega
          · cases hv
    | line s =>
      dsimp only
      split
      · exact ⟨i3, i4⟩
      · exact ⟨i3, i4⟩
theorem stands_lines (l : List Int) (hu : isU8 l = true) (hl : l.length ≤ 1000) : ∃ ls e q, token_Lines.f l = some (ls, e, q) ∧ 0 ≤ q ∧ q ≤ l.length ∧ (e = 0 → chain l (-1) ls) := by
  refine ⟨_, _, _, by unfold token_Lines.f; rw [if_pos hu, if_neg (by omega)], ?_, ?_, fun h => ?_⟩
  · have hm := cutF_mem l (l.length + 1) 0
    rw [List.drop_zero] at hm
    exact (fault_in l _ hm).1
  · have hm := cutF_mem l (l.length + 1) 0
    rw [List.drop_zero] at hm
    exact (fault_in l _ hm).2
  · exact chain_of l hu (l.length + 1) 0 (-1) (by decide) (fun _ => .inl rfl) h
end Go.Proofs.YthhdjbpmkfnhjaaDoor.Pure
