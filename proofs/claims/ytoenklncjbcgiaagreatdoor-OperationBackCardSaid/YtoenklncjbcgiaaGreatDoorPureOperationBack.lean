/- A row of plain words, joined, is one line of just these words. Plain law. -/
import Derived.Test.YtoenklncjbcgiaaGreatDoorETokSpl
import Derived.Test.YtoenklncjbcgiaaGreatDoorEText
import Derived.Test.YtoenklncjbcgiaaGreatDoorEWords
import Derived.Test.YtoenklncjbcgiaaGreatDoorMBackD
import Derived.Test.YtoenklncjbcgiaaGreatDoorERead
import Derived.Test.YtoenklncjbcgiaaGreatDoorPx4
namespace Go.Proofs.YtoenklncjbcgiaaGreatDoor.Pure
open Go.RowKit Go.Proofs.YtoenklncjbcgiaaGreatDoor.P Go.Proofs.YtoenklncjbcgiaaGreatDoorW.PrintWords Go.Proofs.YtoenklncjbcgiaaGreatDoorW.PrintLast
set_option linter.unusedVariables false
set_option linter.unusedSimpArgs false
def plainW (s : ByteArray) : Bool := s.data.toList.all fun c => decide (33 ≤ c.toNat) && decide (c.toNat ≤ 126)
def goodW (s : ByteArray) : Bool := decide (s.size ≠ 0) && plainW s
theorem b_ext {a b : ByteArray} (h : a.data.toList = b.data.toList) : a = b := by
  cases a
  cases b
  exact congrArg ByteArray.mk (Array.toList_inj.1 h)
theorem joinB_data (xs : List ByteArray) : (joinB xs).data.toList = Lib.join (xs.map (·.data.toList)) [32] := rfl
theorem app_data (a b : ByteArray) : (a ++ b).data.toList = a.data.toList ++ b.data.toList := by
  rw [ByteArray.data_append, Array.toList_append]
theorem joinB_one (y : ByteArray) : joinB [y] = y := by
  apply b_ext
  rw [joinB_data]
  simp [Lib.join, List.intercalate, List.intersperse]
theorem joinB_nil : joinB [] = (⟨#[]⟩ : ByteArray) := rfl
def sumS (l : List ByteArray) : Nat := (l.map (·.size)).sum
theorem sumS_cons (x : ByteArray) (l : List ByteArray) : sumS (x :: l) = x.size + sumS l := by simp [sumS]
theorem sumS_app (a b : List ByteArray) : sumS (a ++ b) = sumS a + sumS b := by simp [sumS]
theorem bt_get (w : ByteArray) (i : Nat) (h : i < w.size) : bt w (i : Int) = ((w.data.toList[i]'h).toNat : Int) := by
  rw [← bt_at w (i : Int) (by simpa using h)]
  rfl
theorem joinB_cons (w y : ByteArray) (r : List ByteArray) : joinB (w :: y :: r) = w ++ ((⟨#[32]⟩ : ByteArray) ++ joinB (y :: r)) := by
  apply b_ext
  rw [app_data, app_data, joinB_data, joinB_data]
  simp [Lib.join, List.intercalate, List.intersperse_cons_cons]
theorem bt_app0 (a b : ByteArray) (h : 0 < a.size) : bt (a ++ b) 0 = bt a 0 := by
  have h2 : 0 < (a ++ b).size := by rw [ByteArray.size_append]; omega
  have e1 := bt_get a 0 h
  have e2 := bt_get (a ++ b) 0 h2
  have e3 : (a ++ b).data.toList[0]'h2 = a.data.toList[0]'h := by
    simp only [app_data]
    exact List.getElem_append_left h
  rw [e3] at e2
  exact e2.trans e1.symm
theorem joinB_first (w : ByteArray) (r : List ByteArray) (h : 0 < w.size) : bt (joinB (w :: r)) 0 = bt w 0 := by
  cases r with
  | nil => rw [joinB_one]
  | cons y r => rw [joinB_cons, bt_app0 _ _ h]
theorem strOf_bytes (s : ByteArray) : strOfNums (bytesOf s) = s := by
  apply b_ext
  unfold strOfNums bytesOf
  simp only [List.map_map]
  have : ((fun x : Int => UInt8.ofNat x.toNat) ∘ fun b : UInt8 => (b.toNat : Int)) = id := by
    funext b
    simp
  first
  | (rw [this]; simp)
  | (simp [this])
theorem bytesOf_app (a b : ByteArray) : bytesOf (a ++ b) = bytesOf a ++ bytesOf b := by
  unfold bytesOf
  rw [app_data, List.map_append]
theorem bytesOf_u8 (s : ByteArray) : isU8 (bytesOf s) = true := by
  refine List.all_eq_true.2 (fun x hx => ?_)
  obtain ⟨b, _, rfl⟩ := List.mem_map.1 hx
  have := b.toNat_lt
  simp only [Bool.and_eq_true, decide_eq_true_eq]
  omega
theorem good_size {w : ByteArray} (h : goodW w = true) : 0 < w.size := by
  unfold goodW at h
  simp only [Bool.and_eq_true, decide_eq_true_eq] at h
  omega
theorem good_plain {w : ByteArray} (h : goodW w = true) : ∀ b ∈ w.data.toList, 33 ≤ b.toNat ∧ b.toNat ≤ 126 := by
  intro b hb
  unfold goodW plainW at h
  simp only [Bool.and_eq_true] at h
  simpa using List.all_eq_true.1 h.2 b hb
theorem wrongS_word (rest : List Int) : ∀ (bs : List UInt8) (word : Bool) (i : Int), bs ≠ [] → (∀ b ∈ bs, 33 ≤ b.toNat ∧ b.toNat ≤ 126) →
    wrongS word i ((bs.map fun b => (b.toNat : Int)) ++ rest) = wrongS true (i + bs.length) rest
  | [], _, _, h, _ => absurd rfl h
  | b :: bs, word, i, _, h => by
    have hb := h b List.mem_cons_self
    have hp : plainC (b.toNat : Int) = true := by
      unfold plainC
      simp only [Bool.and_eq_true, decide_eq_true_eq]
      omega
    rw [List.map_cons, List.cons_append, wrongS, if_pos hp]
    cases bs with
    | nil => simp
    | cons c bs =>
      rw [wrongS_word rest (c :: bs) true (i + 1) (by simp) (fun x hx => h x (List.mem_cons_of_mem _ hx))]
      congr 1
      simp only [List.length_cons]
      omega
theorem wrongS_join : ∀ (l : List ByteArray) (i : Int) (word : Bool), l ≠ [] → (∀ w ∈ l, goodW w = true) → wrongS word i (bytesOf (joinB l)) = -1
  | [], _, _, h, _ => absurd rfl h
  | [w], i, word, _, h => by
    have hw := h w List.mem_cons_self
    rw [joinB_one]
    have := wrongS_word [] w.data.toList word i (by intro e; have := good_size hw; have h2 : w.data.toList.length = w.size := rfl; rw [e] at h2; simp at h2; omega) (good_plain hw)
    rw [List.append_nil] at this
    exact this.trans (by rw [wrongS, if_pos rfl])
  | w :: y :: r, i, word, _, h => by
    have hw := h w List.mem_cons_self
    have ih := fun i => wrongS_join (y :: r) i false (by simp) (fun x hx => h x (List.mem_cons_of_mem _ hx))
    rw [joinB_cons, bytesOf_app, bytesOf_app]
    have h1 := wrongS_word (bytesOf (⟨#[32]⟩ : ByteArray) ++ bytesOf (joinB (y :: r))) w.data.toList word i (by intro e; have := good_size hw; have h2 : w.data.toList.length = w.size := rfl; rw [e] at h2; simp at h2; omega) (good_plain hw)
    refine h1.trans ?_
    show wrongS true _ ((32 : Int) :: bytesOf (joinB (y :: r))) = -1
    rw [wrongS, if_neg (by decide), if_pos ⟨rfl, rfl⟩]
    exact ih _
theorem pieces_word (t : List UInt8) : ∀ (bs : List UInt8), (∀ b ∈ bs, 33 ≤ b.toNat ∧ b.toNat ≤ 126) → pieces 32 (bs ++ 32 :: t) = bs :: pieces 32 t
  | [], _ => by rw [List.nil_append, pieces_cons, if_pos (by decide)]
  | b :: bs, h => by
    have hb := h b List.mem_cons_self
    have hne : ¬ (b == 32) = true := by
      intro e
      have := beq_iff_eq.1 e
      subst this
      exact absurd hb.1 (by decide)
    rw [List.cons_append, pieces_cons, if_neg hne, pieces_word t bs (fun x hx => h x (List.mem_cons_of_mem _ hx))]
theorem pieces_last : ∀ (bs : List UInt8), (∀ b ∈ bs, 33 ≤ b.toNat ∧ b.toNat ≤ 126) → pieces 32 bs = [bs]
  | [], _ => rfl
  | b :: bs, h => by
    have hb := h b List.mem_cons_self
    have hne : ¬ (b == 32) = true := by
      intro e
      have := beq_iff_eq.1 e
      subst this
      exact absurd hb.1 (by decide)
    rw [pieces_cons, if_neg hne, pieces_last bs (fun x hx => h x (List.mem_cons_of_mem _ hx))]
theorem arr_eta (w : ByteArray) : (⟨w.data.toList.toArray⟩ : ByteArray) = w := by
  apply b_ext
  rfl
theorem pieces_join : ∀ (l : List ByteArray), l ≠ [] → (∀ w ∈ l, goodW w = true) → piecesB (joinB l) = l
  | [], h, _ => absurd rfl h
  | [w], _, h => by
    unfold piecesB
    rw [joinB_one, pieces_last _ (good_plain (h w List.mem_cons_self)), List.map_singleton, arr_eta]
  | w :: y :: r, _, h => by
    have ih := pieces_join (y :: r) (by simp) (fun x hx => h x (List.mem_cons_of_mem _ hx))
    unfold piecesB at ih ⊢
    rw [joinB_cons, app_data, app_data]
    show (pieces 32 (w.data.toList ++ 32 :: (joinB (y :: r)).data.toList)).map _ = _
    rw [pieces_word _ _ (good_plain (h w List.mem_cons_self)), List.map_cons, ih, arr_eta]
theorem join_no10 : ∀ (l : List ByteArray), (∀ w ∈ l, goodW w = true) → ∀ x ∈ bytesOf (joinB l), x ≠ 10
  | [], _ => fun x hx => by rw [joinB_nil] at hx; cases hx
  | [w], h => fun x hx => by
    rw [joinB_one] at hx
    obtain ⟨b, hb, rfl⟩ := List.mem_map.1 hx
    have := good_plain (h w List.mem_cons_self) b hb
    omega
  | w :: y :: r, h => fun x hx => by
    rw [joinB_cons, bytesOf_app, bytesOf_app] at hx
    rcases List.mem_append.1 hx with hx | hx
    · obtain ⟨b, hb, rfl⟩ := List.mem_map.1 hx
      have := good_plain (h w List.mem_cons_self) b hb
      omega
    · rcases List.mem_append.1 hx with hx | hx
      · have : x = 32 := by simpa [bytesOf] using hx
        omega
      · exact join_no10 (y :: r) (fun z hz => h z (List.mem_cons_of_mem _ hz)) x hx
theorem join_size : ∀ (l : List ByteArray), l ≠ [] → (joinB l).size + 1 = sumS l + l.length
  | [], h => absurd rfl h
  | [w], _ => by rw [joinB_one, sumS_cons]; simp [sumS]
  | w :: y :: r, _ => by
    have ih := join_size (y :: r) (by simp)
    rw [joinB_cons, ByteArray.size_append, ByteArray.size_append, sumS_cons, List.length_cons]
    have : (⟨#[32]⟩ : ByteArray).size = 1 := rfl
    omega
theorem headD_map (f : UInt8 → Int) : ∀ (l : List UInt8) (h : 0 < l.length), (l.map f).headD 0 = f l[0]
  | _ :: _, _ => rfl
theorem headD_bt (s : ByteArray) (h : 0 < s.size) : (bytesOf s).headD 0 = bt s 0 := by
  rw [show bt s 0 = bt s ((0 : Nat) : Int) from rfl, bt_get s 0 h]
  exact headD_map _ _ h
theorem verdict_join (l : List ByteArray) (hne : l ≠ []) (hg : ∀ w ∈ l, goodW w = true) (h35 : bt (joinB l) 0 ≠ 35) (hsz : (joinB l).size ≤ 65536) (p : Nat) : verdict (p, bytesOf (joinB l)) = .line ⟨p, wordsAt p l⟩ := by
  have hlen := bytesOf_len (joinB l)
  have hw := wrongS_join l 0 false hne hg
  have hpos : 0 < (joinB l).size := by
    have h1 := join_size l hne
    obtain ⟨w, r, rfl⟩ := List.exists_cons_of_ne_nil hne
    have h2 := good_size (hg w List.mem_cons_self)
    rw [sumS_cons, List.length_cons] at h1
    omega
  unfold verdict
  dsimp only
  rw [if_neg (by omega), if_neg, hw, if_neg (by decide), strOf_bytes, pieces_join l hne hg]
  rintro (h | h)
  · rw [List.isEmpty_iff] at h
    rw [h] at hlen
    simp at hlen
    omega
  · rw [headD_bt _ hpos] at h
    exact h35 h
theorem lineOf_all : ∀ l : List Int, (∀ x ∈ l, x ≠ 10) → lineOf l = l
  | [], _ => rfl
  | x :: l, h => by
    have hx := h x List.mem_cons_self
    have ih := lineOf_all l (fun y hy => h y (List.mem_cons_of_mem _ hy))
    unfold lineOf at ih ⊢
    rw [List.takeWhile_cons, if_pos (by simp [hx]), ih]
theorem one_line (l : List ByteArray) (hne : l ≠ []) (hg : ∀ w ∈ l, goodW w = true) (h35 : bt (joinB l) 0 ≠ 35) (hsz : (joinB l).size ≤ 65536) :
    token_Lines.f (bytesOf (joinB l)) = some ([⟨0, wordsAt 0 l⟩], 0, 0) := by
  have hlen := bytesOf_len (joinB l)
  have hpos : 0 < (joinB l).size := by
    have h1 := join_size l hne
    obtain ⟨w, r, rfl⟩ := List.exists_cons_of_ne_nil hne
    have h2 := good_size (hg w List.mem_cons_self)
    rw [sumS_cons, List.length_cons] at h1
    omega
  have hv := verdict_join l hne hg h35 hsz 0
  unfold token_Lines.f
  rw [if_pos (bytesOf_u8 _), if_neg (by omega)]
  have hc : cutF ((bytesOf (joinB l)).length + 1) 0 (bytesOf (joinB l)) = [(0, bytesOf (joinB l))] := by
    rw [cutF, lineOf_all _ (join_no10 l hg), if_neg (by rw [List.isEmpty_iff]; intro e; rw [e] at hlen; simp at hlen; omega), List.drop_of_length_le (by omega)]
    cases (bytesOf (joinB l)).length <;> rfl
  rw [hc, linesOf, hv]
  rfl
theorem wordsAt_texts : ∀ (l : List ByteArray) (p : Int), (wordsAt p l).map (fun x => x.f0) = l
  | [], _ => rfl
  | w :: r, p => by rw [wordsAt, List.map_cons, wordsAt_texts r]
theorem wordsAt_len : ∀ (l : List ByteArray) (p : Int), (wordsAt p l).length = l.length
  | [], _ => rfl
  | w :: r, p => by rw [wordsAt, List.length_cons, wordsAt_len r, List.length_cons]
end Go.Proofs.YtoenklncjbcgiaaGreatDoor.Pure

/- What is told of an operation as text: its words are plain, and are read as it was; one word more or less is not. Plain law. -/
namespace Go.Proofs.YtoenklncjbcgiaaGreatDoor.Pure
open Go.RowKit Go.Proofs.YtoenklncjbcgiaaGreatDoor.P Go.Proofs.YtoenklncjbcgiaaGreatDoorW.PrintWords Go.Proofs.YtoenklncjbcgiaaGreatDoorW.PrintLast
set_option linter.unusedVariables false
set_option linter.unusedSimpArgs false
theorem cases15k (k : Int) (h : 1 ≤ k ∧ k ≤ 15) : k = 1 ∨ k = 2 ∨ k = 3 ∨ k = 4 ∨ k = 5 ∨ k = 6 ∨ k = 7 ∨ k = 8 ∨ k = 9 ∨ k = 10 ∨ k = 11 ∨ k = 12 ∨ k = 13 ∨ k = 14 ∨ k = 15 := by omega
theorem kind_of (k : Int) (h : 1 ≤ k ∧ k ≤ 15) : operation_Kind.f (kdOf k).word = some (k, 0) := by
  rcases cases15k k h with rfl | rfl | rfl | rfl | rfl | rfl | rfl | rfl | rfl | rfl | rfl | rfl | rfl | rfl | rfl <;> kernel_rfl
theorem word_good (k : Int) (h : 1 ≤ k ∧ k ≤ 15) : goodW (kdOf k).word = true ∧ (kdOf k).word.size ≤ 8 ∧ bt (kdOf k).word 0 ≠ 35 := by
  rcases cases15k k h with rfl | rfl | rfl | rfl | rfl | rfl | rfl | rfl | rfl | rfl | rfl | rfl | rfl | rfl | rfl <;> exact ⟨by kernel_rfl, by decide +kernel, by decide +kernel⟩
theorem args_of (k : Int) (h : 1 ≤ k ∧ k ≤ 15) : (kdOf k).args = 0 ∨ (kdOf k).args = 1 ∨ (kdOf k).args = 2 := by
  rcases cases15k k h with rfl | rfl | rfl | rfl | rfl | rfl | rfl | rfl | rfl | rfl | rfl | rfl | rfl | rfl | rfl <;> decide +kernel
theorem whole_put (n : Int) (h : isI64 n) : wholeF (putStr n) = some (n, 0) := by
  unfold wholeF
  rw [show number_Get.f (putStr n) = some (n, 0, 0) from get_put n h]
  rfl
theorem put_not (n : Int) (h : isI64 n) (s : ByteArray) (hs : ∀ x, number_Get.f s ≠ some (x, 0, 0)) : (putStr n).toList ≠ s.toList := by
  intro e
  have e2 : putStr n = s := by
    rw [ByteArray.toList_eq, ByteArray.toList_eq] at e
    exact b_ext e
  exact hs n (e2 ▸ get_put n h)
theorem get_ok (x : Int) : number_Get.f ⟨#[111, 107]⟩ ≠ some (x, 0, 0) := by
  have h : (number_Get.f ⟨#[111, 107]⟩).map (fun r => r.2.1) = some 5 := by kernel_rfl
  intro e
  rw [e] at h
  simp at h
theorem get_none (x : Int) : number_Get.f ⟨#[110, 111, 110, 101]⟩ ≠ some (x, 0, 0) := by
  have h : (number_Get.f ⟨#[110, 111, 110, 101]⟩).map (fun r => r.2.1) = some 5 := by kernel_rfl
  intro e
  rw [e] at h
  simp at h
theorem put_good (a : Int) (ha : isI64 a) : goodW (putStr a) = true := by
  have hz : (putStr a).size ≠ 0 := by
    intro e
    have h1 := get_put a ha
    have h2 : putStr a = ⟨#[]⟩ := b_ext (by
      have h3 : (putStr a).data.toList.length = 0 := e
      rw [List.length_eq_zero_iff.1 h3])
    have h4 : number_Get.f (putStr a) = some (a, 0, 0) := h1
    rw [h2] at h4
    have h : (number_Get.f ⟨#[]⟩).map (fun r => r.2.1) = some 5 := by kernel_rfl
    rw [h4] at h
    simp at h
  unfold goodW plainW
  rw [decide_eq_true hz, Bool.true_and, List.all_eq_true]
  intro c hc
  simp only [Bool.and_eq_true, decide_eq_true_eq]
  unfold putStr at hc
  rw [put_data] at hc
  rcases List.mem_append.1 hc with h | h
  · split at h
    · simp at h
      rw [h]
      decide
    · simp at h
  · have hp := (plain_digs 20 a.natAbs (by unfold isI64 at ha; omega) (by decide)).1.2.1 c h
    unfold isDig at hp
    omega
theorem told_good (rk rn : Int) (hn : isI64 rn) : goodW (toldB rk rn) = true := by
  unfold toldB
  split
  · decide +kernel
  · split
    · decide +kernel
    · exact put_good rn hn
theorem words_good (k a b rk rn : Int) (hk : 1 ≤ k ∧ k ≤ 15) (ha : isI64 a) (hb : isI64 b) (hn : isI64 rn) : ∀ w ∈ textWords (kdOf k) a b rk rn, goodW w = true := by
  intro w hw
  unfold textWords at hw
  rcases List.mem_cons.1 hw with rfl | hw
  · exact (word_good k hk).1
  · rcases List.mem_append.1 hw with h | h
    · split at h
      · simp at h
      · split at h
        · simp only [List.mem_singleton] at h
          rw [h]
          exact put_good a ha
        · simp only [List.mem_cons, List.not_mem_nil, or_false] at h
          rcases h with rfl | rfl
          · exact put_good a ha
          · exact put_good b hb
    · simp only [List.mem_cons, List.not_mem_nil, or_false] at h
      rcases h with rfl | rfl
      · decide +kernel
      · exact told_good rk rn hn
theorem ret_cases {x : Kd1} {rk rn : Int} (h : retP x rk rn = true) : (rk = 0 ∧ rn = 0) ∨ (rk = 1 ∧ rn = 0) ∨ rk = 2 := by
  unfold retP at h
  by_cases c : rk = 0 ∧ rn = 0
  · exact .inl c
  · rw [if_neg c] at h
    by_cases d : rk = 1 ∧ rn = 0
    · exact .inr (.inl d)
    · rw [if_neg d] at h
      simp only [Bool.and_eq_true, beq_iff_eq] at h
      exact .inr (.inr h.1)
theorem step_arrow (x : Int × Int × Int × Int) : stepF .arrow ⟨#[45, 62]⟩ x = some (x, 0) := by
  unfold stepF
  rw [ByteArray.toList_eq]
  rfl
theorem step_first (a : Int) (ha : isI64 a) (x : Int × Int × Int × Int) : stepF .first (putStr a) x = some ((a, x.2.1, x.2.2.1, x.2.2.2), 0) := by
  unfold stepF
  rw [whole_put a ha]
  rfl
theorem step_second (b : Int) (hb : isI64 b) (x : Int × Int × Int × Int) : stepF .second (putStr b) x = some ((x.1, b, x.2.2.1, x.2.2.2), 0) := by
  unfold stepF
  rw [whole_put b hb]
  rfl
theorem step_told (rk rn : Int) (hn : isI64 rn) (hr : (rk = 0 ∧ rn = 0) ∨ (rk = 1 ∧ rn = 0) ∨ rk = 2) (x : Int × Int × Int × Int) : stepF .result (toldB rk rn) x = some ((x.1, x.2.1, rk, rn), 0) := by
  unfold stepF toldB
  rcases hr with ⟨rfl, rfl⟩ | ⟨rfl, rfl⟩ | rfl
  · rw [if_pos rfl]
    simp only
    rw [if_pos (by rw [ByteArray.toList_eq])]
  · rw [if_neg (by decide), if_pos rfl]
    simp only
    rw [if_neg (by rw [ByteArray.toList_eq]; decide), if_pos (by rw [ByteArray.toList_eq])]
  · rw [if_neg (by decide), if_neg (by decide)]
    have h1 := put_not rn hn ⟨#[111, 107]⟩ get_ok
    have h2 := put_not rn hn ⟨#[110, 111, 110, 101]⟩ get_none
    simp only [ByteArray.toList_eq] at h1 h2 ⊢
    rw [if_neg h1, if_neg h2, whole_put rn hn]
    rfl
theorem run_step {l : List ByteArray} {s : StepK} {ss : List StepK} {i : Nat} {x y : Int × Int × Int × Int} {w : ByteArray} (hi : ¬ i + 1 = l.length) (hw : l[i + 1]? = some w) (hs : stepF s w x = some (y, 0)) : runSteps l (s :: ss) i x = runSteps l ss (i + 1) y := by
  have hr : rdOf ByteArray.empty l ((i : Int) + 1) = w := by
    unfold rdOf
    rw [show ((i : Int) + 1).toNat = i + 1 by omega, List.getD_eq_getElem?_getD, hw]
    rfl
  rw [runSteps, if_neg hi, hr, hs, Option.bind_some, if_pos rfl]
theorem run_end {l : List ByteArray} {s : StepK} {ss : List StepK} {i : Nat} {x : Int × Int × Int × Int} (hi : i + 1 = l.length) : runSteps l (s :: ss) i x = some (x, i + 1, 5) := by
  rw [runSteps, if_pos hi]
/-- All steps over the words and whatever stands behind them. -/
theorem run_words (k a b rk rn : Int) (hk : 1 ≤ k ∧ k ≤ 15) (ha : isI64 a) (hb : isI64 b) (hn : isI64 rn) (hA : argsP (kdOf k) a b = true) (hR : retP (kdOf k) rk rn = true) (t : List ByteArray) :
    ∃ m i, (stepsOf (kdOf k).args).length = m ∧ (textWords (kdOf k) a b rk rn).length = m + 1 ∧ runSteps (textWords (kdOf k) a b rk rn ++ t) (stepsOf (kdOf k).args) 0 (0, 0, 0, 0) = some ((a, b, rk, rn), i, 0) := by
  have hr := ret_cases hR
  unfold argsP at hA
  simp only [Bool.and_eq_true, Bool.or_eq_true, decide_eq_true_eq, beq_iff_eq] at hA
  obtain ⟨⟨hA1, hA2⟩, _⟩ := hA
  rcases args_of k hk with h | h | h
  · rw [h] at hA1 hA2 ⊢
    obtain rfl : a = 0 := by omega
    obtain rfl : b = 0 := by omega
    refine ⟨2, 2, rfl, by unfold textWords; rw [h]; rfl, ?_⟩
    have hl : textWords (kdOf k) 0 0 rk rn ++ t = (kdOf k).word :: ⟨#[45, 62]⟩ :: toldB rk rn :: t := by unfold textWords; rw [h]; rfl
    rw [hl, show stepsOf 0 = [.arrow, .result] from rfl, run_step (by simp) rfl (step_arrow _), run_step (by simp) rfl (step_told rk rn hn hr _)]
    rfl
  · rw [h] at hA1 hA2 ⊢
    obtain rfl : b = 0 := by omega
    refine ⟨3, 3, rfl, by unfold textWords; rw [h]; rfl, ?_⟩
    have hl : textWords (kdOf k) a 0 rk rn ++ t = (kdOf k).word :: putStr a :: ⟨#[45, 62]⟩ :: toldB rk rn :: t := by unfold textWords; rw [h]; rfl
    rw [hl, show stepsOf 1 = [.first, .arrow, .result] from rfl, run_step (by simp) rfl (step_first a ha _), run_step (by simp) rfl (step_arrow _), run_step (by simp) rfl (step_told rk rn hn hr _)]
    rfl
  · rw [h]
    refine ⟨4, 4, rfl, by unfold textWords; rw [h]; rfl, ?_⟩
    have hl : textWords (kdOf k) a b rk rn ++ t = (kdOf k).word :: putStr a :: putStr b :: ⟨#[45, 62]⟩ :: toldB rk rn :: t := by unfold textWords; rw [h]; rfl
    rw [hl, show stepsOf 2 = [.first, .second, .arrow, .result] from rfl, run_step (by simp) rfl (step_first a ha _), run_step (by simp) rfl (step_second b hb _), run_step (by simp) rfl (step_arrow _), run_step (by simp) rfl (step_told rk rn hn hr _)]
    rfl
theorem run_less (k a b rk rn : Int) (hk : 1 ≤ k ∧ k ≤ 15) (ha : isI64 a) (hb : isI64 b) :
    ∃ y i, runSteps (textWords (kdOf k) a b rk rn).dropLast (stepsOf (kdOf k).args) 0 (0, 0, 0, 0) = some (y, i, 5) := by
  rcases args_of k hk with h | h | h
  · have hl : (textWords (kdOf k) a b rk rn).dropLast = [(kdOf k).word, ⟨#[45, 62]⟩] := by unfold textWords; rw [h]; rfl
    rw [h, hl, show stepsOf 0 = [.arrow, .result] from rfl, run_step (by simp) rfl (step_arrow _), run_end (by simp)]
    exact ⟨_, _, rfl⟩
  · have hl : (textWords (kdOf k) a b rk rn).dropLast = [(kdOf k).word, putStr a, ⟨#[45, 62]⟩] := by unfold textWords; rw [h]; rfl
    rw [h, hl, show stepsOf 1 = [.first, .arrow, .result] from rfl, run_step (by simp) rfl (step_first a ha _), run_step (by simp) rfl (step_arrow _), run_end (by simp)]
    exact ⟨_, _, rfl⟩
  · have hl : (textWords (kdOf k) a b rk rn).dropLast = [(kdOf k).word, putStr a, putStr b, ⟨#[45, 62]⟩] := by unfold textWords; rw [h]; rfl
    rw [h, hl, show stepsOf 2 = [.first, .second, .arrow, .result] from rfl, run_step (by simp) rfl (step_first a ha _), run_step (by simp) rfl (step_second b hb _), run_step (by simp) rfl (step_arrow _), run_end (by simp)]
    exact ⟨_, _, rfl⟩
theorem head_words (k a b rk rn : Int) (t : List ByteArray) : (textWords (kdOf k) a b rk rn ++ t).length ≠ 0 ∧ rdOf ByteArray.empty (textWords (kdOf k) a b rk rn ++ t) 0 = (kdOf k).word := by
  unfold textWords
  exact ⟨by simp, rfl⟩
theorem check_ok4 {k a b rk rn : Int} (h : operation_Check.f k a b rk rn = some 0) : (1 ≤ k ∧ k ≤ 15) ∧ argsP (kdOf k) a b = true ∧ retP (kdOf k) rk rn = true := by
  unfold operation_Check.f at h
  have h := Option.some.inj h
  by_cases c : 1 ≤ k ∧ k ≤ 15
  · rw [if_pos c] at h
    by_cases d : argsP (kdOf k) a b = true
    · rw [if_pos d] at h
      by_cases e : retP (kdOf k) rk rn = true
      · exact ⟨c, d, e⟩
      · rw [if_neg e] at h
        omega
    · rw [if_neg d] at h
      omega
  · rw [if_neg c] at h
    omega
theorem read_self (k a b rk rn : Int) (ha : isI64 a) (hb : isI64 b) (hn : isI64 rn) (hc : operation_Check.f k a b rk rn = some 0) : operation_Read.f (textWords (kdOf k) a b rk rn) = some (k, a, b, rk, rn, 0, 0) := by
  obtain ⟨hk, hA, hR⟩ := check_ok4 hc
  obtain ⟨m, i, hm, hl, hr⟩ := run_words k a b rk rn hk ha hb hn hA hR []
  obtain ⟨h1, h2⟩ := head_words k a b rk rn []
  rw [List.append_nil] at hr h1 h2
  unfold operation_Read.f
  rw [if_neg h1, h2, kind_of k hk, Option.bind_some, if_neg (by simp), hr, Option.bind_some, hm]
  unfold endRead
  rw [if_neg (by simp), if_neg (by omega), hc, Option.bind_some, if_pos rfl]
theorem read_more (k a b rk rn : Int) (ha : isI64 a) (hb : isI64 b) (hn : isI64 rn) (hc : operation_Check.f k a b rk rn = some 0) (w : ByteArray) : ∃ y, operation_Read.f (textWords (kdOf k) a b rk rn ++ [w]) = some (0, 0, 0, 0, 0, y, 5) := by
  obtain ⟨hk, hA, hR⟩ := check_ok4 hc
  obtain ⟨m, i, hm, hl, hr⟩ := run_words k a b rk rn hk ha hb hn hA hR [w]
  obtain ⟨h1, h2⟩ := head_words k a b rk rn [w]
  unfold operation_Read.f
  rw [if_neg h1, h2, kind_of k hk, Option.bind_some, if_neg (by simp), hr, Option.bind_some, hm]
  unfold endRead
  rw [if_neg (by simp), if_pos (by rw [List.length_append, hl]; simp)]
  exact ⟨_, rfl⟩
theorem read_less (k a b rk rn : Int) (ha : isI64 a) (hb : isI64 b) (hn : isI64 rn) (hc : operation_Check.f k a b rk rn = some 0) : ∃ y, operation_Read.f (textWords (kdOf k) a b rk rn).dropLast = some (0, 0, 0, 0, 0, y, 5) := by
  obtain ⟨hk, hA, hR⟩ := check_ok4 hc
  obtain ⟨y, i, hr⟩ := run_less k a b rk rn hk ha hb
  have h1 : (textWords (kdOf k) a b rk rn).dropLast.length ≠ 0 := by
    unfold textWords
    simp
  have h2 : rdOf ByteArray.empty (textWords (kdOf k) a b rk rn).dropLast 0 = (kdOf k).word := by
    unfold textWords
    rcases args_of k hk with h | h | h <;> rw [h] <;> rfl
  unfold operation_Read.f
  rw [if_neg h1, h2, kind_of k hk, Option.bind_some, if_neg (by simp), hr, Option.bind_some]
  unfold endRead
  rw [if_pos (by simp)]
  exact ⟨_, rfl⟩
theorem words_size (k a b rk rn : Int) (hk : 1 ≤ k ∧ k ≤ 15) : (joinB (textWords (kdOf k) a b rk rn)).size ≤ 200 ∧ (textWords (kdOf k) a b rk rn).length ≤ 5 ∧ textWords (kdOf k) a b rk rn ≠ [] := by
  have hne : textWords (kdOf k) a b rk rn ≠ [] := by unfold textWords; simp
  have h := join_size _ hne
  have hw := (word_good k hk).2.1
  have p1 := putStr_size a
  have p2 := putStr_size b
  have p3 : (toldB rk rn).size ≤ 21 := by
    unfold toldB
    split
    · decide
    · split
      · decide
      · exact putStr_size rn
  have p4 : (⟨#[45, 62]⟩ : ByteArray).size = 2 := rfl
  unfold textWords at h hne ⊢
  rcases args_of k hk with c | c | c <;> rw [c] at h ⊢ <;> simp [sumS] at h ⊢ <;> omega
/-- The words of the text of an operation that may be. -/
theorem line_words (k a b rk rn : Int) (ha : isI64 a) (hb : isI64 b) (hn : isI64 rn) (hc : operation_Check.f k a b rk rn = some 0) :
    token_Lines.f (bytesOf (joinB (textWords (kdOf k) a b rk rn))) = some ([⟨0, wordsAt 0 (textWords (kdOf k) a b rk rn)⟩], 0, 0) := by
  obtain ⟨hk, hA, hR⟩ := check_ok4 hc
  obtain ⟨h1, h2, h3⟩ := words_size k a b rk rn hk
  refine one_line _ h3 (words_good k a b rk rn hk ha hb hn) ?_ (by omega)
  unfold textWords
  rw [joinB_first _ _ (good_size (word_good k hk).1)]
  exact (word_good k hk).2.2
end Go.Proofs.YtoenklncjbcgiaaGreatDoor.Pure

/- OperationBack, in plain Lean: what is told as text is read as it was, and just what may be is told. -/
namespace Go.Proofs.YtoenklncjbcgiaaGreatDoor.Pure
open Go.RowKit Go.Proofs.YtoenklncjbcgiaaGreatDoor.P Go.Proofs.YtoenklncjbcgiaaGreatDoorW.PrintWords Go.Proofs.YtoenklncjbcgiaaGreatDoorW.PrintLast
set_option linter.unusedVariables false
set_option linter.unusedSimpArgs false
theorem known_at : armisticelaw04_OperationKnown.f 40 = some true := by kernel_rfl
theorem words_f (k a b rk rn : Int) (ha : isI64 a) (hb : isI64 b) (hn : isI64 rn) (hc : operation_Check.f k a b rk rn = some 0) : armisticelaw04_words.f (joinB (textWords (kdOf k) a b rk rn)) = some (textWords (kdOf k) a b rk rn, true) := by
  obtain ⟨hk, _, _⟩ := check_ok4 hc
  obtain ⟨h1, h2, h3⟩ := words_size k a b rk rn hk
  have hr : rd_T58 [(⟨0, wordsAt 0 (textWords (kdOf k) a b rk rn)⟩ : S58)] 0 = ⟨0, wordsAt 0 (textWords (kdOf k) a b rk rn)⟩ := rfl
  unfold armisticelaw04_words.f
  rw [if_pos (by omega), line_words k a b rk rn ha hb hn hc, Option.bind_some]
  dsimp only
  rw [hr, if_pos ⟨rfl, rfl, rfl, by rw [wordsAt_len]; omega⟩, wordsAt_texts]
theorem OperationBack (k a b rk rn : Int) (ha : isI64 a) (hb : isI64 b) (hn : isI64 rn) : armisticelaw04_OperationBack.f 40 k a b rk rn = some true := by
  unfold armisticelaw04_OperationBack.f
  rw [known_at, Option.bind_some]
  obtain ⟨e, hc⟩ : ∃ e, operation_Check.f k a b rk rn = some e := ⟨_, rfl⟩
  have ht : operation_Text.f k a b rk rn = some (if e = 0 then joinB (textWords (kdOf k) a b rk rn) else ⟨#[]⟩, e) := by
    unfold operation_Text.f
    rw [if_pos ⟨ha, hb, hn⟩, hc, Option.bind_some]
    by_cases he : e = 0
    · rw [if_pos he, if_pos he, he]
    · rw [if_neg he, if_neg he]
  rw [ht, hc, Option.bind_some, Option.bind_some]
  dsimp only
  rw [if_pos rfl]
  by_cases he : e = 0
  · subst he
    obtain ⟨hk, _, _⟩ := check_ok4 hc
    obtain ⟨h1, h2, h3⟩ := words_size k a b rk rn hk
    have hpos : 0 < (textWords (kdOf k) a b rk rn).length := List.length_pos_iff.2 h3
    have r1 : armisticelaw04_reads.f k a b rk rn (textWords (kdOf k) a b rk rn) = some true := by
      unfold armisticelaw04_reads.f
      rw [read_self k a b rk rn ha hb hn hc, Option.bind_some]
      simp
    have r2 : armisticelaw04_reads.f k a b rk rn (textWords (kdOf k) a b rk rn ++ [(⟨#[49]⟩ : ByteArray)]) = some false := by
      obtain ⟨y, hy⟩ := read_more k a b rk rn ha hb hn hc ⟨#[49]⟩
      unfold armisticelaw04_reads.f
      rw [hy, Option.bind_some]
      dsimp only
      split
      · split <;> rfl
      · rfl
    have r3 : armisticelaw04_reads.f k a b rk rn (textWords (kdOf k) a b rk rn).dropLast = some false := by
      obtain ⟨y, hy⟩ := read_less k a b rk rn ha hb hn hc
      unfold armisticelaw04_reads.f
      rw [hy, Option.bind_some]
      dsimp only
      split
      · split <;> rfl
      · rfl
    have e1 : wrap64 (((textWords (kdOf k) a b rk rn).length : Int) - 1) = (((textWords (kdOf k) a b rk rn).length - 1 : Nat) : Int) := by unfold wrap64; omega
    rw [if_pos rfl, if_pos rfl, words_f k a b rk rn ha hb hn hc, Option.bind_some]
    dsimp only
    rw [if_pos rfl, if_pos rfl, r1, Option.bind_some, if_pos rfl, if_pos (by omega), r2, Option.bind_some, if_neg (by decide), if_pos (by omega), e1, if_pos (by omega), if_pos (by omega),
      Int.toNat_natCast, ← List.dropLast_eq_take, r3]
    rfl
  · rw [if_neg he, if_neg he, if_pos rfl]
    refine congrArg some ?_
    rw [ByteArray.toList_eq]
    rfl
end Go.Proofs.YtoenklncjbcgiaaGreatDoor.Pure
