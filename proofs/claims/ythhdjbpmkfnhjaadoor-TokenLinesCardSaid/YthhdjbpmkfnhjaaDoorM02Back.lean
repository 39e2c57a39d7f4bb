/- What is joined has just these words: the lines of a text that holds the joined line. Plain law. -/
import Derived.Test.YthhdjbpmkfnhjaaDoorM02Join
import Derived.Test.YthhdjbpmkfnhjaaDoorM02Lines
import Derived.Test.YthhdjbpmkfnhjaaDoorEConv
namespace Go.Proofs.YthhdjbpmkfnhjaaDoor.Pure
open Go.RowKit Go.Proofs.YthhdjbpmkfnhjaaDoor.P Go.Proofs.YthhdjbpmkfnhjaaDoorW.PrintWords Go.Proofs.YthhdjbpmkfnhjaaDoorW.PrintLast
theorem strOf_bytes (s : ByteArray) : strOfNums (bytesOf s) = s := by
  apply b_ext
  unfold strOfNums bytesOf
  simp only [List.map_map]
  have : ((fun x : Int => UInt8.ofNat x.toNat) ∘ fun b : UInt8 => (b.toNat : Int)) = id := by
    funext b
    simp
  first
  | (rw [this]; simp)
  | (simp [this])
theorem bytesOf_app (a b : ByteArray) : bytesOf (a ++ b) = bytesOf a ++ bytesOf b := by
  unfold bytesOf
  rw [app_data, List.map_append]
theorem bytesOf_u8 (s : ByteArray) : isU8 (bytesOf s) = true := by
  refine List.all_eq_true.2 (fun x hx => ?_)
  obtain ⟨b, _, rfl⟩ := List.mem_map.1 hx
  have := b.toNat_lt
  simp only [Bool.and_eq_true, decide_eq_true_eq]
  omega
theorem good_size {w : ByteArray} (h : goodW w = true) : 0 < w.size := by
  unfold goodW at h
  simp only [Bool.and_eq_true, decide_eq_true_eq] at h
  omega
theorem good_plain {w : ByteArray} (h : goodW w = true) : ∀ b ∈ w.data.toList, 33 ≤ b.toNat ∧ b.toNat ≤ 126 := by
  intro b hb
  unfold goodW plainW at h
  simp only [Bool.and_eq_true] at h
  simpa using List.all_eq_true.1 h.2 b hb
theorem wrongS_word (rest : List Int) : ∀ (bs : List UInt8) (word : Bool) (i : Int), bs ≠ [] → (∀ b ∈ bs, 33 ≤ b.toNat ∧ b.toNat ≤ 126) →
    wrongS word i ((bs.map fun b => (b.toNat : Int)) ++ rest) = wrongS true (i + bs.length) rest
  | [], _, _, h, _ => absurd rfl h
  | b :: bs, word, i, _, h => by
    have hb := h b List.mem_cons_self
    have hp : plainC (b.toNat : Int) = true := by
      unfold plainC
      simp only [Bool.and_eq_true, decide_eq_true_eq]
      omega
    rw [List.map_cons, List.cons_append, wrongS, if_pos hp]
    cases bs with
    | nil => simp
    | cons c bs =>
      rw [wrongS_word rest (c :: bs) true (i + 1) (by simp) (fun x hx => h x (List.mem_cons_of_mem _ hx))]
      congr 1
      simp only [List.length_cons]
      omega
theorem wrongS_join : ∀ (l : List ByteArray) (i : Int) (word : Bool), l ≠ [] → (∀ w ∈ l, goodW w = true) → wrongS word i (bytesOf (joinB l)) = -1
  | [], _, _, h, _ => absurd rfl h
  | [w], i, word, _, h => by
    have hw := h w List.mem_cons_self
    rw [joinB_one]
    have := wrongS_word [] w.data.toList word i (by intro e; have := good_size hw; have h2 : w.data.toList.length = w.size := rfl; rw [e] at h2; simp at h2; omega) (good_plain hw)
    rw [List.append_nil] at this
    exact this.trans (by rw [wrongS, if_pos rfl])
  | w :: y :: r, i, word, _, h => by
    have hw := h w List.mem_cons_self
    have ih := fun i => wrongS_join (y :: r) i false (by simp) (fun x hx => h x (List.mem_cons_of_mem _ hx))
    rw [joinB_cons, bytesOf_app, bytesOf_app]
    have h1 := wrongS_word (bytesOf (⟨#[32]⟩ : ByteArray) ++ bytesOf (joinB (y :: r))) w.data.toList word i (by intro e; have := good_size hw; have h2 : w.data.toList.length = w.size := rfl; rw [e] at h2; simp at h2; omega) (good_plain hw)
    refine h1.trans ?_
    show wrongS true _ ((32 : Int) :: bytesOf (joinB (y :: r))) = -1
    rw [wrongS, if_neg (by decide), if_pos ⟨rfl, rfl⟩]
    exact ih _
theorem pieces_word (t : List UInt8) : ∀ (bs : List UInt8), (∀ b ∈ bs, 33 ≤ b.toNat ∧ b.toNat ≤ 126) → pieces 32 (bs ++ 32 :: t) = bs :: pieces 32 t
  | [], _ => by rw [List.nil_append, pieces_cons, if_pos (by decide)]
  | b :: bs, h => by
    have hb := h b List.mem_cons_self
    have hne : ¬ (b == 32) = true := by
      intro e
      have := beq_iff_eq.1 e
      subst this
      exact absurd hb.1 (by decide)
    rw [List.cons_append, pieces_cons, if_neg hne, pieces_word t bs (fun x hx => h x (List.mem_cons_of_mem _ hx))]
theorem pieces_last : ∀ (bs : List UInt8), (∀ b ∈ bs, 33 ≤ b.toNat ∧ b.toNat ≤ 126) → pieces 32 bs = [bs]
  | [], _ => rfl
  | b :: bs, h => by
    have hb := h b List.mem_cons_self
    have hne : ¬ (b == 32) = true := by
      intro e
      have := beq_iff_eq.1 e
      subst this
      exact absurd hb.1 (by decide)
    rw [pieces_cons, if_neg hne, pieces_last bs (fun x hx => h x (List.mem_cons_of_mem _ hx))]
theorem arr_eta (w : ByteArray) : (⟨w.data.toList.toArray⟩ : ByteArray) = w := by
  apply b_ext
  rfl
theorem pieces_join : ∀ (l : List ByteArray), l ≠ [] → (∀ w ∈ l, goodW w = true) → piecesB (joinB l) = l
  | [], h, _ => absurd rfl h
  | [w], _, h => by
    unfold piecesB
    rw [joinB_one, pieces_last _ (good_plain (h w List.mem_cons_self)), List.map_singleton, arr_eta]
  | w :: y :: r, _, h => by
    have ih := pieces_join (y :: r) (by simp) (fun x hx => h x (List.mem_cons_of_mem _ hx))
    unfold piecesB at ih ⊢
    rw [joinB_cons, app_data, app_data]
    show (pieces 32 (w.data.toList ++ 32 :: (joinB (y :: r)).data.toList)).map _ = _
    rw [pieces_word _ _ (good_plain (h w List.mem_cons_self)), List.map_cons, ih, arr_eta]
theorem join_no10 : ∀ (l : List ByteArray), (∀ w ∈ l, goodW w = true) → ∀ x ∈ bytesOf (joinB l), x ≠ 10
  | [], _ => fun x hx => by rw [joinB_nil] at hx; cases hx
  | [w], h => fun x hx => by
    rw [joinB_one] at hx
    obtain ⟨b, hb, rfl⟩ := List.mem_map.1 hx
    have := good_plain (h w List.mem_cons_self) b hb
    omega
  | w :: y :: r, h => fun x hx => by
    rw [joinB_cons, bytesOf_app, bytesOf_app] at hx
    rcases List.mem_append.1 hx with hx | hx
    · obtain ⟨b, hb, rfl⟩ := List.mem_map.1 hx
      have := good_plain (h w List.mem_cons_self) b hb
      omega
    · rcases List.mem_append.1 hx with hx | hx
      · have : x = 32 := by simpa [bytesOf] using hx
        omega
      · exact join_no10 (y :: r) (fun z hz => h z (List.mem_cons_of_mem _ hz)) x hx
theorem join_size : ∀ (l : List ByteArray), l ≠ [] → (joinB l).size + 1 = sumS l + l.length
  | [], h => absurd rfl h
  | [w], _ => by rw [joinB_one, sumS_cons]; simp [sumS]
  | w :: y :: r, _ => by
    have ih := join_size (y :: r) (by simp)
    rw [joinB_cons, ByteArray.size_append, ByteArray.size_append, sumS_cons, List.length_cons]
    have : (⟨#[32]⟩ : ByteArray).size = 1 := rfl
    omega
theorem lineOf_no10 (t : List Int) : ∀ l : List Int, (∀ x ∈ l, x ≠ 10) → lineOf (l ++ 10 :: t) = l
  | [], _ => by simp [lineOf]
  | x :: l, h => by
    have hx := h x List.mem_cons_self
    have ih := lineOf_no10 t l (fun y hy => h y (List.mem_cons_of_mem _ hy))
    unfold lineOf at ih ⊢
    rw [List.cons_append, List.takeWhile_cons, if_pos (by simp [hx]), ih]
/-- What Join tells: a fault and no text, or the words' line. -/
theorem join_cases (l : List ByteArray) (s : ByteArray) (e : Int) (h : token_Join.f l = some (s, e)) : (e ≠ 0 ∧ s = ⟨#[]⟩) ∨ (e = 0 ∧ l ≠ [] ∧ s = joinB l ∧ (∀ w ∈ l, goodW w = true) ∧ bt s 0 ≠ 35 ∧ s.size ≤ 65536) := by
  unfold token_Join.f at h
  split at h
  · have h := Option.some.inj h
    split at h
    · cases h
      exact .inl ⟨by decide, rfl⟩
    · rename_i hne
      unfold joinEnd at h
      split at h
      · rename_i hall
        split at h
        · cases h
          exact .inl ⟨by decide, rfl⟩
        · split at h
          · cases h
            exact .inl ⟨by decide, rfl⟩
          · cases h
            exact .inr ⟨rfl, by intro e; subst e; simp at hne, rfl, fun w hw => List.all_eq_true.1 hall w hw, by assumption, by omega⟩
      · cases h
        exact .inl ⟨by decide, rfl⟩
  · cases h
theorem join_some (l : List ByteArray) (h : sumS l ≤ 140737488300000) (hl : l.length ≤ 40) : ∃ s e, token_Join.f l = some (s, e) := by
  unfold token_Join.f
  have := joinB_size l.length l rfl
  rw [if_pos ⟨by omega, by omega⟩]
  exact ⟨_, _, rfl⟩
def backHead : ByteArray := ⟨#[120, 32, 121, 10, 10, 35, 32, 32, 35, 10]⟩
def backFirst : S34 := ⟨0, [⟨⟨#[120]⟩, 0⟩, ⟨⟨#[121]⟩, 2⟩]⟩
theorem headD_map (f : UInt8 → Int) : ∀ (l : List UInt8) (h : 0 < l.length), (l.map f).headD 0 = f l[0]
  | _ :: _, _ => rfl
theorem headD_bt (s : ByteArray) (h : 0 < s.size) : (bytesOf s).headD 0 = bt s 0 := by
  rw [show bt s 0 = bt s ((0 : Nat) : Int) from rfl, bt_get s 0 h]
  exact headD_map _ _ h
theorem verdict_join (l : List ByteArray) (hne : l ≠ []) (hg : ∀ w ∈ l, goodW w = true) (h35 : bt (joinB l) 0 ≠ 35) (hsz : (joinB l).size ≤ 65536) (p : Nat) : verdict (p, bytesOf (joinB l)) = .line ⟨p, wordsAt p l⟩ := by
  have hlen := bytesOf_len (joinB l)
  have hw := wrongS_join l 0 false hne hg
  have hpos : 0 < (joinB l).size := by
    have h1 := join_size l hne
    obtain ⟨w, r, rfl⟩ := List.exists_cons_of_ne_nil hne
    have h2 := good_size (hg w List.mem_cons_self)
    rw [sumS_cons, List.length_cons] at h1
    omega
  unfold verdict
  dsimp only
  rw [if_neg (by omega), if_neg, hw, if_neg (by decide), strOf_bytes, pieces_join l hne hg]
  rintro (h | h)
  · rw [List.isEmpty_iff] at h
    rw [h] at hlen
    simp at hlen
    omega
  · rw [headD_bt _ hpos] at h
    exact h35 h
theorem back_lines (l : List ByteArray) (hne : l ≠ []) (hg : ∀ w ∈ l, goodW w = true) (h35 : bt (joinB l) 0 ≠ 35) (hsz : (joinB l).size ≤ 65536) :
    token_Lines.f (bytesOf (backHead ++ joinB l ++ (⟨#[10]⟩ : ByteArray))) = some ([backFirst, ⟨10, wordsAt 10 l⟩], 0, 0) := by
  have e : bytesOf (backHead ++ joinB l ++ (⟨#[10]⟩ : ByteArray)) = [120, 32, 121, 10, 10, 35, 32, 32, 35, 10] ++ (bytesOf (joinB l) ++ [10]) := by
    rw [bytesOf_app, bytesOf_app, List.append_assoc]
    rfl
  have hlen := bytesOf_len (joinB l)
  unfold token_Lines.f
  rw [if_pos (bytesOf_u8 _), e]
  have hl2 : ([120, 32, 121, 10, 10, 35, 32, 32, 35, 10] ++ (bytesOf (joinB l) ++ [10]) : List Int).length = (joinB l).size + 11 := by
    simp only [List.length_append, List.length_cons, List.length_nil, hlen]
    omega
  rw [if_neg (by omega)]
  rw [cut_app (bytesOf (joinB l) ++ [10]) 10 [120, 32, 121, 10, 10, 35, 32, 32, 35, 10] (by simp) (.inr ⟨[120, 32, 121, 10, 10, 35, 32, 32, 35], rfl⟩) 0 _ 11 ((joinB l).size + 2) (Nat.lt_succ_self _) (by simp) (by simp [hlen])]
  have e2 : cutF ((joinB l).size + 2) (0 + ([120, 32, 121, 10, 10, 35, 32, 32, 35, 10] : List Int).length) (bytesOf (joinB l) ++ [10]) = [(10, bytesOf (joinB l))] := by
    rw [cutF, if_neg (by simp), lineOf_no10 [] _ (join_no10 l hg), List.drop_of_length_le (by simp)]
    show (10, bytesOf (joinB l)) :: cutF _ _ [] = _
    rw [cutF_nil]
  rw [e2, linesOf_app, linesOf_cons, verdict_join l hne hg h35 hsz 10]
  have e3 : linesOf (cutF 11 0 [120, 32, 121, 10, 10, 35, 32, 32, 35, 10]) = ([backFirst], 0, 0) := by kernel_rfl
  rw [e3]
  rfl
theorem wordsAt_get : ∀ (l : List ByteArray) (p : Int) (i : Nat) (h : i < l.length), (wordsAt p l)[i]? = some ⟨l[i], p + sumS (l.take i) + i⟩
  | [], _, i, h => by simp at h
  | w :: r, p, 0, h => by simp [wordsAt, sumS]
  | w :: r, p, i + 1, h => by
    have ih := wordsAt_get r (p + (w.size : Int) + 1) i (by simpa using h)
    rw [wordsAt, List.getElem?_cons_succ, ih, List.take_succ_cons, sumS_cons]
    rw [List.getElem_cons_succ, Int.natCast_add, Int.natCast_add]
    have : p + (w.size : Int) + 1 + (sumS (r.take i) : Int) + (i : Int) = p + ((w.size : Int) + (sumS (r.take i) : Int)) + ((i : Int) + ((1 : Nat) : Int)) := by omega
    rw [this]
end Go.Proofs.YthhdjbpmkfnhjaaDoor.Pure
