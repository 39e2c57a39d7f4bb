/- A row of plain words, joined, is one line of just these words. Plain law. -/
import Derived.Test.YtkjnbfjbdlcehaaGreatDoorETokLines
import Derived.Test.YtkjnbfjbdlcehaaGreatDoorEText
import Derived.Test.YtkjnbfjbdlcehaaGreatDoorEConv
namespace Go.Proofs.YtkjnbfjbdlcehaaGreatDoor.Pure
open Go.RowKit Go.Proofs.YtkjnbfjbdlcehaaGreatDoor.P Go.Proofs.YtkjnbfjbdlcehaaGreatDoorW.PrintWords Go.Proofs.YtkjnbfjbdlcehaaGreatDoorW.PrintLast
set_option linter.unusedVariables false
set_option linter.unusedSimpArgs false
def plainW (s : ByteArray) : Bool := s.data.toList.all fun c => decide (33 ≤ c.toNat) && decide (c.toNat ≤ 126)
def goodW (s : ByteArray) : Bool := decide (s.size ≠ 0) && plainW s
theorem b_ext {a b : ByteArray} (h : a.data.toList = b.data.toList) : a = b := by
  cases a
  cases b
  exact congrArg ByteArray.mk (Array.toList_inj.1 h)
theorem joinB_data (xs : List ByteArray) : (joinB xs).data.toList = Lib.join (xs.map (·.data.toList)) [32] := rfl
theorem app_data (a b : ByteArray) : (a ++ b).data.toList = a.data.toList ++ b.data.toList := by
  rw [ByteArray.data_append, Array.toList_append]
theorem joinB_one (y : ByteArray) : joinB [y] = y := by
  apply b_ext
  rw [joinB_data]
  simp [Lib.join, List.intercalate, List.intersperse]
theorem joinB_nil : joinB [] = (⟨#[]⟩ : ByteArray) := rfl
def sumS (l : List ByteArray) : Nat := (l.map (·.size)).sum
theorem sumS_cons (x : ByteArray) (l : List ByteArray) : sumS (x :: l) = x.size + sumS l := by simp [sumS]
theorem sumS_app (a b : List ByteArray) : sumS (a ++ b) = sumS a + sumS b := by simp [sumS]
theorem bt_get (w : ByteArray) (i : Nat) (h : i < w.size) : bt w (i : Int) = ((w.data.toList[i]'h).toNat : Int) := by
  rw [← bt_at w (i : Int) (by simpa using h)]
  rfl
theorem joinB_cons (w y : ByteArray) (r : List ByteArray) : joinB (w :: y :: r) = w ++ ((⟨#[32]⟩ : ByteArray) ++ joinB (y :: r)) := by
  apply b_ext
  rw [app_data, app_data, joinB_data, joinB_data]
  simp [Lib.join, List.intercalate, List.intersperse_cons_cons]
theorem bt_app0 (a b : ByteArray) (h : 0 < a.size) : bt (a ++ b) 0 = bt a 0 := by
  have h2 : 0 < (a ++ b).size := by rw [ByteArray.size_append]; omega
  have e1 := bt_get a 0 h
  have e2 := bt_get (a ++ b) 0 h2
  have e3 : (a ++ b).data.toList[0]'h2 = a.data.toList[0]'h := by
    simp only [app_data]
    exact List.getElem_append_left h
  rw [e3] at e2
  exact e2.trans e1.symm
theorem joinB_first (w : ByteArray) (r : List ByteArray) (h : 0 < w.size) : bt (joinB (w :: r)) 0 = bt w 0 := by
  cases r with
  | nil => rw [joinB_one]
  | cons y r => rw [joinB_cons, bt_app0 _ _ h]
theorem strOf_bytes (s : ByteArray) : strOfNums (bytesOf s) = s := by
  apply b_ext
  unfold strOfNums bytesOf
  simp only [List.map_map]
  have : ((fun x : Int => UInt8.ofNat x.toNat) ∘ fun b : UInt8 => (b.toNat : Int)) = id := by
    funext b
    simp
  first
  | (rw [this]; simp)
  | (simp [this])
theorem bytesOf_app (a b : ByteArray) : bytesOf (a ++ b) = bytesOf a ++ bytesOf b := by
  unfold bytesOf
  rw [app_data, List.map_append]
theorem bytesOf_u8 (s : ByteArray) : isU8 (bytesOf s) = true := by
  refine List.all_eq_true.2 (fun x hx => ?_)
  obtain ⟨b, _, rfl⟩ := List.mem_map.1 hx
  have := b.toNat_lt
  simp only [Bool.and_eq_true, decide_eq_true_eq]
  omega
theorem good_size {w : ByteArray} (h : goodW w = true) : 0 < w.size := by
  unfold goodW at h
  simp only [Bool.and_eq_true, decide_eq_true_eq] at h
  omega
theorem good_plain {w : ByteArray} (h : goodW w = true) : ∀ b ∈ w.data.toList, 33 ≤ b.toNat ∧ b.toNat ≤ 126 := by
  intro b hb
  unfold goodW plainW at h
  simp only [Bool.and_eq_true] at h
  simpa using List.all_eq_true.1 h.2 b hb
theorem wrongS_word (rest : List Int) : ∀ (bs : List UInt8) (word : Bool) (i : Int), bs ≠ [] → (∀ b ∈ bs, 33 ≤ b.toNat ∧ b.toNat ≤ 126) →
    wrongS word i ((bs.map fun b => (b.toNat : Int)) ++ rest) = wrongS true (i + bs.length) rest
  | [], _, _, h, _ => absurd rfl h
  | b :: bs, word, i, _, h => by
    have hb := h b List.mem_cons_self
    have hp : plainC (b.toNat : Int) = true := by
      unfold plainC
      simp only [Bool.and_eq_true, decide_eq_true_eq]
      omega
    rw [List.map_cons, List.cons_append, wrongS, if_pos hp]
    cases bs with
    | nil => simp
    | cons c bs =>
      rw [wrongS_word rest (c :: bs) true (i + 1) (by simp) (fun x hx => h x (List.mem_cons_of_mem _ hx))]
      congr 1
      simp only [List.length_cons]
      omega
theorem wrongS_join : ∀ (l : List ByteArray) (i : Int) (word : Bool), l ≠ [] → (∀ w ∈ l, goodW w = true) → wrongS word i (bytesOf (joinB l)) = -1
  | [], _, _, h, _ => absurd rfl h
  | [w], i, word, _, h => by
    have hw := h w List.mem_cons_self
    rw [joinB_one]
    have := wrongS_word [] w.data.toList word i (by intro e; have := good_size hw; have h2 : w.data.toList.length = w.size := rfl; rw [e] at h2; simp at h2; omega) (good_plain hw)
    rw [List.append_nil] at this
    exact this.trans (by rw [wrongS, if_pos rfl])
  | w :: y :: r, i, word, _, h => by
    have hw := h w List.mem_cons_self
    have ih := fun i => wrongS_join (y :: r) i false (by simp) (fun x hx => h x (List.mem_cons_of_mem _ hx))
    rw [joinB_cons, bytesOf_app, bytesOf_app]
    have h1 := wrongS_word (bytesOf (⟨#[32]⟩ : ByteArray) ++ bytesOf (joinB (y :: r))) w.data.toList word i (by intro e; have := good_size hw; have h2 : w.data.toList.length = w.size := rfl; rw [e] at h2; simp at h2; omega) (good_plain hw)
    refine h1.trans ?_
    show wrongS true _ ((32 : Int) :: bytesOf (joinB (y :: r))) = -1
    rw [wrongS, if_neg (by decide), if_pos ⟨rfl, rfl⟩]
    exact ih _
theorem pieces_word (t : List UInt8) : ∀ (bs : List UInt8), (∀ b ∈ bs, 33 ≤ b.toNat ∧ b.toNat ≤ 126) → pieces 32 (bs ++ 32 :: t) = bs :: pieces 32 t
  | [], _ => by rw [List.nil_append, pieces_cons, if_pos (by decide)]
  | b :: bs, h => by
    have hb := h b List.mem_cons_self
    have hne : ¬ (b == 32) = true := by
      intro e
      have := beq_iff_eq.1 e
      subst this
      exact absurd hb.1 (by decide)
    rw [List.cons_append, pieces_cons, if_neg hne, pieces_word t bs (fun x hx => h x (List.mem_cons_of_mem _ hx))]
theorem pieces_last : ∀ (bs : List UInt8), (∀ b ∈ bs, 33 ≤ b.toNat ∧ b.toNat ≤ 126) → pieces 32 bs = [bs]
  | [], _ => rfl
  | b :: bs, h => by
    have hb := h b List.mem_cons_self
    have hne : ¬ (b == 32) = true := by
      intro e
      have := beq_iff_eq.1 e
      subst this
      exact absurd hb.1 (by decide)
    rw [pieces_cons, if_neg hne, pieces_last bs (fun x hx => h x (List.mem_cons_of_mem _ hx))]
theorem arr_eta (w : ByteArray) : (⟨w.data.toList.toArray⟩ : ByteArray) = w := by
  apply b_ext
  rfl
theorem pieces_join : ∀ (l : List ByteArray), l ≠ [] → (∀ w ∈ l, goodW w = true) → piecesB (joinB l) = l
  | [], h, _ => absurd rfl h
  | [w], _, h => by
    unfold piecesB
    rw [joinB_one, pieces_last _ (good_plain (h w List.mem_cons_self)), List.map_singleton, arr_eta]
  | w :: y :: r, _, h => by
    have ih := pieces_join (y :: r) (by simp) (fun x hx => h x (List.mem_cons_of_mem _ hx))
    unfold piecesB at ih ⊢
    rw [joinB_cons, app_data, app_data]
    show (pieces 32 (w.data.toList ++ 32 :: (joinB (y :: r)).data.toList)).map _ = _
    rw [pieces_word _ _ (good_plain (h w List.mem_cons_self)), List.map_cons, ih, arr_eta]
theorem join_no10 : ∀ (l : List ByteArray), (∀ w ∈ l, goodW w = true) → ∀ x ∈ bytesOf (joinB l), x ≠ 10
  | [], _ => fun x hx => by rw [joinB_nil] at hx; cases hx
  | [w], h => fun x hx => by
    rw [joinB_one] at hx
    obtain ⟨b, hb, rfl⟩ := List.mem_map.1 hx
    have := good_plain (h w List.mem_cons_self) b hb
    omega
  | w :: y :: r, h => fun x hx => by
    rw [joinB_cons, bytesOf_app, bytesOf_app] at hx
    rcases List.mem_append.1 hx with hx | hx
    · obtain ⟨b, hb, rfl⟩ := List.mem_map.1 hx
      have := good_plain (h w List.mem_cons_self) b hb
      omega
    · rcases List.mem_append.1 hx with hx | hx
      · have : x = 32 := by simpa [bytesOf] using hx
        omega
      · exact join_no10 (y :: r) (fun z hz => h z (List.mem_cons_of_mem _ hz)) x hx
theorem join_size : ∀ (l : List ByteArray), l ≠ [] → (joinB l).size + 1 = sumS l + l.length
  | [], h => absurd rfl h
  | [w], _ => by rw [joinB_one, sumS_cons]; simp [sumS]
  | w :: y :: r, _ => by
    have ih := join_size (y :: r) (by simp)
    rw [joinB_cons, ByteArray.size_append, ByteArray.size_append, sumS_cons, List.length_cons]
    have : (⟨#[32]⟩ : ByteArray).size = 1 := rfl
    omega
theorem headD_map (f : UInt8 → Int) : ∀ (l : List UInt8) (h : 0 < l.length), (l.map f).headD 0 = f l[0]
  | _ :: _, _ => rfl
theorem headD_bt (s : ByteArray) (h : 0 < s.size) : (bytesOf s).headD 0 = bt s 0 := by
  rw [show bt s 0 = bt s ((0 : Nat) : Int) from rfl, bt_get s 0 h]
  exact headD_map _ _ h
theorem verdict_join (l : List ByteArray) (hne : l ≠ []) (hg : ∀ w ∈ l, goodW w = true) (h35 : bt (joinB l) 0 ≠ 35) (hsz : (joinB l).size ≤ 65536) (p : Nat) : verdict (p, bytesOf (joinB l)) = .line ⟨p, wordsAt p l⟩ := by
  have hlen := bytesOf_len (joinB l)
  have hw := wrongS_join l 0 false hne hg
  have hpos : 0 < (joinB l).size := by
    have h1 := join_size l hne
    obtain ⟨w, r, rfl⟩ := List.exists_cons_of_ne_nil hne
    have h2 := good_size (hg w List.mem_cons_self)
    rw [sumS_cons, List.length_cons] at h1
    omega
  unfold verdict
  dsimp only
  rw [if_neg (by omega), if_neg, hw, if_neg (by decide), strOf_bytes, pieces_join l hne hg]
  rintro (h | h)
  · rw [List.isEmpty_iff] at h
    rw [h] at hlen
    simp at hlen
    omega
  · rw [headD_bt _ hpos] at h
    exact h35 h
theorem lineOf_all : ∀ l : List Int, (∀ x ∈ l, x ≠ 10) → lineOf l = l
  | [], _ => rfl
  | x :: l, h => by
    have hx := h x List.mem_cons_self
    have ih := lineOf_all l (fun y hy => h y (List.mem_cons_of_mem _ hy))
    unfold lineOf at ih ⊢
    rw [List.takeWhile_cons, if_pos (by simp [hx]), ih]
theorem one_line (l : List ByteArray) (hne : l ≠ []) (hg : ∀ w ∈ l, goodW w = true) (h35 : bt (joinB l) 0 ≠ 35) (hsz : (joinB l).size ≤ 65536) :
    token_Lines.f (bytesOf (joinB l)) = some ([⟨0, wordsAt 0 l⟩], 0, 0) := by
  have hlen := bytesOf_len (joinB l)
  have hpos : 0 < (joinB l).size := by
    have h1 := join_size l hne
    obtain ⟨w, r, rfl⟩ := List.exists_cons_of_ne_nil hne
    have h2 := good_size (hg w List.mem_cons_self)
    rw [sumS_cons, List.length_cons] at h1
    omega
  have hv := verdict_join l hne hg h35 hsz 0
  unfold token_Lines.f
  rw [if_pos (bytesOf_u8 _), if_neg (by omega)]
  have hc : cutF ((bytesOf (joinB l)).length + 1) 0 (bytesOf (joinB l)) = [(0, bytesOf (joinB l))] := by
    rw [cutF, lineOf_all _ (join_no10 l hg), if_neg (by rw [List.isEmpty_iff]; intro e; rw [e] at hlen; simp at hlen; omega), List.drop_of_length_le (by omega)]
    cases (bytesOf (joinB l)).length <;> rfl
  rw [hc, linesOf, hv]
  rfl
theorem wordsAt_texts : ∀ (l : List ByteArray) (p : Int), (wordsAt p l).map (fun x => x.f0) = l
  | [], _ => rfl
  | w :: r, p => by rw [wordsAt, List.map_cons, wordsAt_texts r]
theorem wordsAt_len : ∀ (l : List ByteArray) (p : Int), (wordsAt p l).length = l.length
  | [], _ => rfl
  | w :: r, p => by rw [wordsAt, List.length_cons, wordsAt_len r, List.length_cons]
end Go.Proofs.YtkjnbfjbdlcehaaGreatDoor.Pure

/- Plain facts of texts' lines. -/
namespace Go.Proofs.YtkjnbfjbdlcehaaGreatDoor.P.Z2
open Go.RowKit Go.Proofs.YtkjnbfjbdlcehaaGreatDoor.P Go.Proofs.YtkjnbfjbdlcehaaGreatDoor.Pure Go.Proofs.YtkjnbfjbdlcehaaGreatDoorW.PrintWords Go.Proofs.YtkjnbfjbdlcehaaGreatDoorW.PrintLast Go.Proofs.YtkjnbfjbdlcehaaGreatDoorW.PrintMore
set_option linter.unusedVariables false
set_option linter.unusedSimpArgs false

/-! Two lists that are one are the same. -/
/-! Lines of a text that stands elsewhere; of two texts. -/
theorem cutF_shift (d : Nat) : ∀ (f p : Nat) (l : List Int), cutF f (p + d) l = (cutF f p l).map fun x => (x.1 + d, x.2)
  | 0, _, _ => rfl
  | f + 1, p, l => by
    by_cases c : l = []
    · subst c
      rfl
    · rw [cutF_cons f _ l c, cutF_cons f p l c, List.map_cons, show p + d + (lineOf l).length + 1 = (p + (lineOf l).length + 1) + d by omega, cutF_shift d f]
theorem cutF_fuel : ∀ (f f' p : Nat) (l : List Int), l.length < f → l.length < f' → cutF f p l = cutF f' p l
  | 0, _, _, _, h, _ => by omega
  | _, 0, _, _, _, h => by omega
  | f + 1, f' + 1, p, l, h, h' => by
    by_cases c : l = []
    · subst c
      rfl
    · have hl : 0 < l.length := List.length_pos_iff.2 c
      rw [cutF_cons f p l c, cutF_cons f' p l c, cutF_fuel f f' _ _ (by rw [List.length_drop]; omega) (by rw [List.length_drop]; omega)]
theorem lineOf_app (a b : List Int) (h : (10 : Int) ∈ a) : lineOf (a ++ b) = lineOf a ∧ (lineOf a).length < a.length := by
  induction a with
  | nil => cases h
  | cons x a ih =>
    unfold lineOf
    by_cases c : x = 10
    · subst c
      simp
    · have hm : (10 : Int) ∈ a := by
        rcases List.mem_cons.1 h with h | h
        · exact absurd h.symm c
        · exact h
      obtain ⟨h1, h2⟩ := ih hm
      unfold lineOf at h1 h2
      have c' : (x != 10) = true := by simpa using c
      rw [List.cons_append, List.takeWhile_cons, List.takeWhile_cons, if_pos c', if_pos c', h1]
      exact ⟨rfl, by simpa using h2⟩
theorem cut_app (y : List Int) : ∀ (n : Nat) (x : List Int), x.length ≤ n → (x = [] ∨ ∃ x', x = x' ++ [10]) → ∀ p f f1 f2, (x ++ y).length < f → x.length < f1 → y.length < f2 →
    cutF f p (x ++ y) = cutF f1 p x ++ cutF f2 (p + x.length) y
  | 0, x, hn, _, p, f, f1, f2, hf, h1, h2 => by
    obtain rfl := List.length_eq_zero_iff.1 (by omega : x.length = 0)
    rw [cutF_nil, List.nil_append, List.nil_append, List.length_nil, Nat.add_zero]
    exact cutF_fuel _ _ _ _ (by simpa using hf) h2
  | n + 1, x, hn, hx, p, f, f1, f2, hf, h1, h2 => by
    rcases hx with rfl | ⟨x', rfl⟩
    · rw [cutF_nil, List.nil_append, List.nil_append, List.length_nil, Nat.add_zero]
      exact cutF_fuel _ _ _ _ (by simpa using hf) h2
    · obtain ⟨f, rfl⟩ : ∃ m, f = m + 1 := ⟨f - 1, by omega⟩
      obtain ⟨f1, rfl⟩ : ∃ m, f1 = m + 1 := ⟨f1 - 1, by omega⟩
      obtain ⟨e1, e2⟩ := lineOf_app (x' ++ [10]) y (by simp)
      have hne : x' ++ [10] ≠ [] := by simp
      have hne2 : x' ++ [10] ++ y ≠ [] := by simp
      rw [cutF_cons f p _ hne2, cutF_cons f1 p _ hne, e1]
      have ed : (x' ++ [10] ++ y).drop ((lineOf (x' ++ [10])).length + 1) = (x' ++ [10]).drop ((lineOf (x' ++ [10])).length + 1) ++ y := by
        rw [List.drop_append_of_le_length (by omega)]
      rw [ed]
      generalize hm : (lineOf (x' ++ [10])).length = m at e2 ⊢
      have hend : (x' ++ [10]).drop (m + 1) = [] ∨ ∃ x'', (x' ++ [10]).drop (m + 1) = x'' ++ [10] := by
        by_cases c : m + 1 ≤ x'.length
        · exact .inr ⟨x'.drop (m + 1), by rw [List.drop_append_of_le_length c]⟩
        · left
          apply List.drop_eq_nil_of_le
          simp only [List.length_append, List.length_cons, List.length_nil]
          omega
      have hlen : ((x' ++ [10]).drop (m + 1)).length = (x' ++ [10]).length - (m + 1) := List.length_drop ..
      have ih := cut_app y n ((x' ++ [10]).drop (m + 1)) (by omega) hend (p + m + 1) f f1 f2 (by rw [List.length_append, hlen]; rw [List.length_append] at hf; omega) (by omega) h2
      have e3 : p + m + 1 + ((x' ++ [10]).length - (m + 1)) = p + (x' ++ [10]).length := by omega
      rw [ih, hlen, e3]
      rfl
def shW (d : Int) (w : S128) : S128 := ⟨w.f0, w.f1 + d⟩
def shL (d : Int) (x : S84) : S84 := ⟨x.f0 + d, x.f1.map (shW d)⟩
theorem wordsAt_shift (d : Int) : ∀ (ws : List ByteArray) (p : Int), wordsAt (p + d) ws = (wordsAt p ws).map (shW d)
  | [], _ => rfl
  | w :: ws, p => by
    show (⟨w, p + d⟩ : S128) :: wordsAt (p + d + (w.size : Int) + 1) ws = _
    rw [show p + d + (w.size : Int) + 1 = (p + (w.size : Int) + 1) + d by omega, wordsAt_shift d ws]
    rfl
theorem verdict_shift (d : Nat) (x : Nat × List Int) : verdict (x.1 + d, x.2) = match verdict x with
    | .skip => .skip
    | .bad e p => .bad e (p + d)
    | .line s => .line (shL d s) := by
  unfold verdict
  dsimp only
  split
  · simp
  · split
    · rfl
    · split
      · simp
        omega
      · dsimp only
        unfold shL
        rw [Int.natCast_add, wordsAt_shift]
theorem linesOf_cases : ∀ xs : List (Nat × List Int), ((linesOf xs).2.1 = 0 ∧ (linesOf xs).2.2 = 0) ∨ ((linesOf xs).2.1 ≠ 0 ∧ (linesOf xs).1 = [])
  | [] => .inl ⟨rfl, rfl⟩
  | x :: xs => by
    have ih := linesOf_cases xs
    have e : linesOf (x :: xs) = (match verdict x with | .skip => linesOf xs | .bad e p => ([], e, p) | .line s => if (linesOf xs).2.1 = 0 then (s :: (linesOf xs).1, (linesOf xs).2) else ([], (linesOf xs).2)) := rfl
    rw [e]
    cases hv : verdict x with
    | skip => exact ih
    | bad e p =>
      refine .inr ⟨?_, rfl⟩
      unfold verdict at hv
      split at hv
      · cases hv; simp
      · split at hv
        · cases hv
        · split at hv
          · cases hv; simp
          · cases hv
    | line s =>
      dsimp only
      split
      · rename_i h0
        rcases ih with h | h
        · exact .inl h
        · exact absurd h0 h.1
      · rename_i h0
        exact .inr ⟨h0, rfl⟩
theorem linesOf_cons (x : Nat × List Int) (xs : List (Nat × List Int)) : linesOf (x :: xs) = (match verdict x with | .skip => linesOf xs | .bad e p => ([], e, p) | .line s => if (linesOf xs).2.1 = 0 then (s :: (linesOf xs).1, (linesOf xs).2) else ([], (linesOf xs).2)) := rfl
theorem linesOf_app (ys : List (Nat × List Int)) : ∀ xs : List (Nat × List Int), linesOf (xs ++ ys) = if (linesOf xs).2.1 = 0 then (if (linesOf ys).2.1 = 0 then ((linesOf xs).1 ++ (linesOf ys).1, 0, 0) else ([], (linesOf ys).2)) else ([], (linesOf xs).2)
  | [] => by
    rw [List.nil_append, if_pos (show (linesOf ([] : List (Nat × List Int))).2.1 = 0 from rfl)]
    rcases linesOf_cases ys with ⟨h1, h2⟩ | ⟨h1, h2⟩
    · rw [if_pos h1]
      have e0 : (linesOf ([] : List (Nat × List Int))).1 = [] := rfl
      rw [e0, List.nil_append]
      exact Prod.ext rfl (Prod.ext h1 h2)
    · rw [if_neg h1]
      exact Prod.ext h2 rfl
  | x :: xs => by
    have ih := linesOf_app ys xs
    have hcx := linesOf_cases xs
    rw [List.cons_append, linesOf_cons, linesOf_cons]
    cases hv : verdict x with
    | skip => exact ih
    | bad e p =>
      dsimp only
      have he : e ≠ 0 := by
        unfold verdict at hv
        split at hv
        · cases hv; simp
        · split at hv
          · cases hv
          · split at hv
            · cases hv; simp
            · cases hv
      rw [if_neg he]
    | line s =>
      dsimp only
      rw [ih]
      generalize linesOf xs = X at hcx ⊢
      generalize linesOf ys = Y
      obtain ⟨a, e, p⟩ := X
      obtain ⟨b, e2, p2⟩ := Y
      dsimp only at hcx ⊢
      by_cases h1 : e = 0
      · by_cases h2 : e2 = 0
        · simp [h1, h2]
        · simp [h1, h2]
      · simp [h1]
theorem linesOf_shift (d : Nat) : ∀ xs : List (Nat × List Int), linesOf (xs.map fun x => (x.1 + d, x.2)) = ((linesOf xs).1.map (shL d), (linesOf xs).2.1, if (linesOf xs).2.1 = 0 then 0 else (linesOf xs).2.2 + d)
  | [] => rfl
  | x :: xs => by
    have ih := linesOf_shift d xs
    have hcx := linesOf_cases xs
    rw [List.map_cons, linesOf_cons, linesOf_cons, verdict_shift]
    cases hv : verdict x with
    | skip => exact ih
    | bad e p =>
      dsimp only
      have he : e ≠ 0 := by
        unfold verdict at hv
        split at hv
        · cases hv; simp
        · split at hv
          · cases hv
          · split at hv
            · cases hv; simp
            · cases hv
      rw [if_neg he]
      rfl
    | line s =>
      dsimp only
      rw [ih]
      generalize linesOf xs = X at hcx ⊢
      obtain ⟨a, e, p⟩ := X
      dsimp only at hcx ⊢
      by_cases h1 : e = 0
      · simp [h1]
      · simp [h1]

/-! Where lines and words stand. -/
def inR (n : Nat) (x : S84) : Prop := (0 ≤ x.f0 ∧ x.f0 ≤ n) ∧ (∀ w ∈ x.f1, 0 ≤ w.f1 ∧ w.f1 ≤ n) ∧ x.f1.length ≤ n
theorem words_in : ∀ (ws : List ByteArray) (p : Int), 0 ≤ p → ∀ w ∈ wordsAt p ws, 0 ≤ w.f1 ∧ w.f1 ≤ p + sumB ws
  | [], p, _, w, h => by cases h
  | x :: ws, p, hp, w, h => by
    have hs : sumB (x :: ws) = x.size + 1 + sumB ws := by simp [sumB]
    rcases List.mem_cons.1 h with rfl | h
    · exact ⟨hp, by dsimp only; omega⟩
    · have := words_in ws (p + (x.size : Int) + 1) (by omega) w h
      omega
theorem verdict_in (bs : List Int) (x : Nat × List Int) (h2 : x.2 = lineOf (bs.drop x.1)) (h1 : x.1 < bs.length) (s : S84) (hv : verdict x = .line s) : inR (bs.length + 1) s := by
  have hl := lineOf_le (bs.drop x.1)
  rw [← h2, List.length_drop] at hl
  unfold verdict at hv
  split at hv
  · cases hv
  · split at hv
    · cases hv
    · split at hv
      · cases hv
      · cases hv
        have hsum := piecesB_sum (strOfNums x.2)
        rw [strOfNums_size] at hsum
        have hsl := sumB_length (piecesB (strOfNums x.2))
        refine ⟨⟨by dsimp only; omega, by dsimp only; omega⟩, fun w hw => ?_, ?_⟩
        · have := words_in _ _ (by omega) w hw
          omega
        · rw [wordsAt_length]
          omega
theorem linesOf_in (bs : List Int) : ∀ xs : List (Nat × List Int), (∀ x ∈ xs, x.2 = lineOf (bs.drop x.1) ∧ x.1 < bs.length) → (∀ s ∈ (linesOf xs).1, inR (bs.length + 1) s) ∧ (linesOf xs).1.length ≤ xs.length ∧ 0 ≤ (linesOf xs).2.2 ∧ (linesOf xs).2.2 ≤ bs.length + 67108864
  | [], _ => ⟨fun s hs => (by cases hs), Nat.le_refl _, Int.le_refl _, by show (0 : Int) ≤ _; omega⟩
  | x :: xs, h => by
    obtain ⟨i1, i2, i3, i4⟩ := linesOf_in bs xs (fun y hy => h y (List.mem_cons_of_mem _ hy))
    obtain ⟨h2, h1⟩ := h x List.mem_cons_self
    have hl := lineOf_le (bs.drop x.1)
    rw [← h2, List.length_drop] at hl
    rw [linesOf_cons]
    cases hv : verdict x with
    | skip => exact ⟨i1, Nat.le_succ_of_le i2, i3, i4⟩
    | bad e p =>
      refine ⟨fun s hs => (by cases hs), Nat.zero_le _, ?_⟩
      have hr := wrongS_range x.2 false 0
      simp only [Int.natCast_zero, Int.zero_add] at hr
      unfold verdict at hv
      split at hv
      · cases hv
        dsimp only
        omega
      · split at hv
        · cases hv
        · split at hv
          · cases hv
            dsimp only
            omega
          · cases hv
    | line s =>
      dsimp only
      split
      · refine ⟨fun t ht => ?_, by simpa using i2, i3, i4⟩
        rcases List.mem_cons.1 ht with rfl | ht
        · exact verdict_in bs x h2 h1 _ hv
        · exact i1 t ht
      · exact ⟨fun s hs => (by cases hs), Nat.zero_le _, i3, i4⟩
theorem bytes_strOf (L : List Int) (h : isU8 L = true) : bytesOf (strOfNums L) = L := by
  unfold bytesOf strOfNums
  simp only [List.map_map]
  refine (List.map_congr_left (g := id) (fun x hx => ?_)).trans (List.map_id _)
  have := isU8_mem h hx
  simp
  omega
theorem join_pieces : ∀ bs : List UInt8, Lib.join (pieces 32 bs) [32] = bs
  | [] => rfl
  | c :: l => by
    have ih := join_pieces l
    rw [pieces_cons]
    by_cases e : (c == 32) = true
    · rw [if_pos e, beq_iff_eq.1 e]
      match hp : pieces 32 l with
      | [] => exact absurd hp (pieces_ne 32 l)
      | q :: qs =>
        rw [hp] at ih
        have : Lib.join ([] :: q :: qs) [32] = 32 :: Lib.join (q :: qs) [32] := by
          simp [Lib.join, List.intercalate, List.intersperse_cons_cons]
        rw [this, ih]
    · rw [if_neg e]
      match hp : pieces 32 l with
      | [] => exact absurd hp (pieces_ne 32 l)
      | [q] =>
        rw [hp] at ih
        have h1 : Lib.join [q] [32] = q := by simp [Lib.join, List.intercalate]
        have h2 : Lib.join [c :: q] [32] = c :: q := by simp [Lib.join, List.intercalate]
        rw [h1] at ih
        show Lib.join [c :: q] [32] = _
        rw [h2, ih]
      | q :: r :: qs =>
        rw [hp] at ih
        have h1 : ∀ a : List UInt8, Lib.join (a :: r :: qs) [32] = a ++ 32 :: Lib.join (r :: qs) [32] := fun a => by
          simp [Lib.join, List.intercalate, List.intersperse_cons_cons]
        rw [h1] at ih
        show Lib.join ((c :: q) :: r :: qs) [32] = _
        rw [h1, List.cons_append, ih]
theorem joinB_pieces (s : ByteArray) : joinB (piecesB s) = s := by
  apply b_ext
  rw [joinB_data]
  unfold piecesB
  simp only [List.map_map]
  have : (pieces 32 s.data.toList).map ((fun x : ByteArray => x.data.toList) ∘ fun l : List UInt8 => (⟨l.toArray⟩ : ByteArray)) = pieces 32 s.data.toList := List.map_id _
  rw [this]
  exact join_pieces _
theorem pieces_full : ∀ (bs : List UInt8) (word : Bool) (i : Int), 0 ≤ i → wrongS word i (bs.map fun b => (b.toNat : Int)) = -1 →
    ∃ q qs, pieces 32 bs = q :: qs ∧ (word = true ∨ q ≠ []) ∧ ∀ p ∈ qs, p ≠ []
  | [], word, i, hi, h => by
    refine ⟨[], [], rfl, .inl ?_, fun p hp => by cases hp⟩
    rw [List.map_nil, wrongS] at h
    split at h
    · assumption
    · omega
  | c :: l, word, i, hi, h => by
    rw [List.map_cons, wrongS] at h
    rw [pieces_cons]
    by_cases e : (c == 32) = true
    · rw [if_pos e]
      have ec := beq_iff_eq.1 e
      subst ec
      rw [if_neg (by decide)] at h
      by_cases hw : word = true
      · rw [if_pos ⟨rfl, hw⟩] at h
        obtain ⟨q, qs, h1, h2, h3⟩ := pieces_full l false (i + 1) (by omega) h
        refine ⟨[], pieces 32 l, rfl, .inl hw, fun p hp => ?_⟩
        rw [h1] at hp
        rcases List.mem_cons.1 hp with rfl | hp
        · rcases h2 with h2 | h2
          · cases h2
          · exact h2
        · exact h3 p hp
      · rw [if_neg (fun x => hw x.2)] at h
        omega
    · rw [if_neg e]
      have hne : ¬ ((c.toNat : Int) = 32) := by
        intro x
        apply e
        rw [beq_iff_eq]
        apply UInt8.toNat.inj
        have : (32 : UInt8).toNat = 32 := rfl
        omega
      split at h
      · obtain ⟨q, qs, h1, h2, h3⟩ := pieces_full l true (i + 1) (by omega) h
        rw [h1]
        exact ⟨c :: q, qs, rfl, .inr (by simp), h3⟩
      · rw [if_neg (fun x => hne x.1)] at h
        omega
theorem piecesB_full (L : List Int) (hu : isU8 L = true) (h : wrongS false 0 L = -1) : ∀ w ∈ piecesB (strOfNums L), 0 < w.size := by
  have hb := bytes_strOf L hu
  rw [← hb] at h
  obtain ⟨q, qs, h1, h2, h3⟩ := pieces_full (strOfNums L).data.toList false 0 (by omega) h
  intro w hw
  unfold piecesB at hw
  rw [h1] at hw
  obtain ⟨z, hz, rfl⟩ := List.mem_map.1 hw
  have : z ≠ [] := by
    rcases List.mem_cons.1 hz with rfl | hz
    · rcases h2 with h2 | h2
      · cases h2
      · exact h2
    · exact h3 z hz
  exact List.length_pos_iff.2 this
theorem fault_in (bs : List Int) : ∀ xs : List (Nat × List Int), (∀ x ∈ xs, x.2 = lineOf (bs.drop x.1) ∧ x.1 < bs.length) → 0 ≤ (linesOf xs).2.2 ∧ (linesOf xs).2.2 ≤ bs.length
  | [], _ => ⟨Int.le_refl _, by show (0 : Int) ≤ _; omega⟩
  | x :: xs, h => by
    obtain ⟨i3, i4⟩ := fault_in bs xs (fun y hy => h y (List.mem_cons_of_mem _ hy))
    obtain ⟨h2, h1⟩ := h x List.mem_cons_self
    have hl := lineOf_le (bs.drop x.1)
    rw [← h2, List.length_drop] at hl
    rw [linesOf_cons]
    cases hv : verdict x with
    | skip => exact ⟨i3, i4⟩
    | bad e p =>
      have hr := wrongS_range x.2 false 0
      simp only [Int.natCast_zero, Int.zero_add] at hr
      unfold verdict at hv
      split at hv
      · cases hv
        dsimp only
        omega
      · split at hv
        · cases hv
        · split at hv
          · cases hv
            dsimp only
            omega
          · cases hv
    | line s =>
      dsimp only
      split
      · exact ⟨i3, i4⟩
      · exact ⟨i3, i4⟩
end Go.Proofs.YtkjnbfjbdlcehaaGreatDoor.P.Z2
