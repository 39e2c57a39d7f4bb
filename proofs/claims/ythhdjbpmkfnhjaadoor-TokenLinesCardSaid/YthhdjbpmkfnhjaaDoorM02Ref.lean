/- The document's Lines (by definition, byte by byte) comes to the program's. Plain law. -/
import Derived.Test.YthhdjbpmkfnhjaaDoorM02Stands
import Derived.Test.YthhdjbpmkfnhjaaDoorPx4
namespace Go.Proofs.YthhdjbpmkfnhjaaDoor.Pure
open Go.RowKit Go.Proofs.YthhdjbpmkfnhjaaDoor.P Go.Proofs.YthhdjbpmkfnhjaaDoorW.PrintWords Go.Proofs.YthhdjbpmkfnhjaaDoorW.PrintLast
theorem wrap_small {x : Int} (h0 : -9223372036854775808 ≤ x) (h : x < 9223372036854775808) : wrap64 x = x := by unfold wrap64; omega
theorem wrongS_shift : ∀ (l : List Int) (word : Bool) (i : Int), 0 ≤ i → wrongS word i l = if wrongS word 0 l = -1 then -1 else wrongS word 0 l + i := by
  have key : ∀ (l : List Int) (word : Bool) (i j : Int), 0 ≤ i → 0 ≤ j → (wrongS word i l = -1 ∧ wrongS word j l = -1) ∨ (0 ≤ wrongS word j l ∧ wrongS word i l - i = wrongS word j l - j) := by
    intro l
    induction l with
    | nil =>
      intro word i j hi hj
      simp only [wrongS]
      split
      · exact .inl ⟨rfl, rfl⟩
      · exact .inr ⟨hj, by omega⟩
    | cons c l ih =>
      intro word i j hi hj
      simp only [wrongS]
      split
      · rcases ih true (i + 1) (j + 1) (by omega) (by omega) with h | h
        · exact .inl h
        · exact .inr ⟨h.1, by omega⟩
      · split
        · rcases ih false (i + 1) (j + 1) (by omega) (by omega) with h | h
          · exact .inl h
          · exact .inr ⟨h.1, by omega⟩
        · exact .inr ⟨hj, by omega⟩
  intro l word i hi
  rcases key l word i 0 hi (Int.le_refl _) with h | h
  · rw [if_pos h.2, h.1]
  · rw [if_neg (by omega)]
    omega
def numsOf (bs : List UInt8) : List Int := bs.map fun b => (b.toNat : Int)
def mkB (l : List UInt8) : ByteArray := ⟨l.toArray⟩
/-- Bytes of b from q on are bs. -/
def At (b : List Int) (q : Nat) (bs : List UInt8) : Prop := ∀ (j : Nat) (h : j < bs.length), b[q + j]? = some ((bs[j].toNat : Nat) : Int)
theorem at_tail {b : List Int} {q : Nat} {c : UInt8} {bs : List UInt8} (h : At b q (c :: bs)) : At b (q + 1) bs := fun j hj => by
  have := h (j + 1) (by simpa using hj)
  rw [show q + 1 + j = q + (j + 1) by omega]
  simpa using this
theorem at_drop {b : List Int} {q : Nat} : ∀ {xs bs : List UInt8}, At b q (xs ++ bs) → At b (q + xs.length) bs
  | [], bs, h => by simpa using h
  | x :: xs, bs, h => by
    have := at_drop (at_tail h)
    rw [List.length_cons, show q + (xs.length + 1) = q + 1 + xs.length by omega]
    exact this
theorem at_head {b : List Int} {q : Nat} {c : UInt8} {bs : List UInt8} (h : At b q (c :: bs)) : rd b (q : Int) = (c.toNat : Int) ∧ q < b.length := by
  have h1 := h 0 (by simp)
  rw [Nat.add_zero] at h1
  refine ⟨by simpa [rd, List.getD] using congrArg (Option.getD · 0) h1, (List.getElem?_eq_some_iff.1 h1).1⟩
theorem at_slice {b : List Int} {q : Nat} : ∀ {xs bs : List UInt8}, At b q (xs ++ bs) → (b.take (q + xs.length)).drop q = numsOf xs
  | xs, bs, h => by
    apply List.ext_getElem?
    intro j
    rw [List.getElem?_drop, List.getElem?_take]
    unfold numsOf
    rw [List.getElem?_map]
    by_cases c : j < xs.length
    · rw [if_pos (by omega)]
      have := h j (by rw [List.length_append]; omega)
      rw [this, List.getElem_append_left c]
      simp [c]
    · rw [if_neg (by omega)]
      simp [Nat.le_of_not_lt c]
theorem strOf_nums (bs : List UInt8) : strOfNums (numsOf bs) = mkB bs := by
  have := strOf_bytes (mkB bs)
  exact this
def plainU (c : UInt8) : Bool := decide (33 ≤ c.toNat) && decide (c.toNat ≤ 126)
theorem plain_eq (c : UInt8) : armisticeref02_plain.f (c.toNat : Int) = some (plainU c) := by
  rw [plain02]
  unfold plainU
  congr 1
  rw [show decide ((33 : Int) ≤ (c.toNat : Int)) = decide (33 ≤ c.toNat) from decide_eq_decide.2 (by omega), show decide ((c.toNat : Int) ≤ 126) = decide (c.toNat ≤ 126) from decide_eq_decide.2 (by omega)]
theorem plainC_eq (c : UInt8) : plainC (c.toNat : Int) = plainU c := by
  unfold plainC plainU
  rw [show decide ((33 : Int) ≤ (c.toNat : Int)) = decide (33 ≤ c.toNat) from decide_eq_decide.2 (by omega), show decide ((c.toNat : Int) ≤ 126) = decide (c.toNat ≤ 126) from decide_eq_decide.2 (by omega)]
/-- The scan over plain bytes. -/
theorem words_l1 (b : List Int) (hb : b.length ≤ 67108864) (e : Nat) (acc : List S36) (q0 : Nat) (r : List S36 × Int × Bool) : ∀ (xs bs : List UInt8) (q : Nat), At b q (xs ++ bs) → q + xs.length + bs.length = e → e ≤ b.length → (∀ c ∈ xs, plainU c = true) → (bs = [] ∨ ∃ c t, bs = c :: t ∧ plainU c = false) →
    Evt (fun k => armisticeref02_words.j2 k b (e : Int) acc ((q + xs.length : Nat) : Int) (q0 : Int)) r → Evt (fun k => armisticeref02_words.l1 k b (e : Int) acc (q : Int) (q0 : Int)) r
  | [], bs, q, hat, he, heb, _, hend, h => by
    refine evt_step h (fun k => ?_)
    rw [armisticeref02_words.l1]
    rcases hend with rfl | ⟨c, t, rfl, hc⟩
    · simp only [List.length_nil, Nat.add_zero] at he ⊢
      rw [if_neg (by omega)]
    · simp only [List.length_nil, Nat.add_zero, List.length_cons, List.nil_append] at he hat ⊢
      obtain ⟨h1, h2⟩ := at_head hat
      rw [if_pos (by omega), if_pos (by omega), if_pos (by omega), h1, plain_eq, hc]
      simp
  | x :: xs, bs, q, hat, he, heb, hx, hend, h => by
    have hat' : At b q (x :: (xs ++ bs)) := hat
    obtain ⟨h1, h2⟩ := at_head hat'
    simp only [List.length_cons] at he h
    have ih := words_l1 b hb e acc q0 r xs bs (q + 1) (at_tail hat') (by omega) heb (fun c hc => hx c (List.mem_cons_of_mem _ hc)) hend (by rw [show q + 1 + xs.length = q + (xs.length + 1) by omega]; exact h)
    refine evt_step ih (fun k => ?_)
    have ew : wrap64 ((q : Int) + 1) = ((q + 1 : Nat) : Int) := by rw [wrap_small] <;> omega
    rw [armisticeref02_words.l1, if_pos (by omega), if_pos (by omega), if_pos (by omega), h1, plain_eq, hx x List.mem_cons_self, ew]
    simp
theorem split_plain : ∀ bs : List UInt8, ∃ xs ys, bs = xs ++ ys ∧ (∀ c ∈ xs, plainU c = true) ∧ (ys = [] ∨ ∃ c t, ys = c :: t ∧ plainU c = false)
  | [] => ⟨[], [], rfl, fun c hc => (by cases hc), .inl rfl⟩
  | c :: bs => by
    by_cases h : plainU c = true
    · obtain ⟨xs, ys, rfl, h1, h2⟩ := split_plain bs
      exact ⟨c :: xs, ys, rfl, fun d hd => by rcases List.mem_cons.1 hd with rfl | hd; exact h; exact h1 d hd, h2⟩
    · exact ⟨[], c :: bs, rfl, fun d hd => (by cases hd), .inr ⟨c, bs, rfl, by simpa using h⟩⟩
theorem plain_range {c : UInt8} (h : plainU c = true) : 33 ≤ c.toNat ∧ c.toNat ≤ 126 := by
  unfold plainU at h
  simpa using h
def wordsEnd (acc : List S36) (q : Nat) (bs : List UInt8) : List S36 × Int × Bool :=
  if 0 ≤ wrongS false 0 (numsOf bs) then ([], q + wrongS false 0 (numsOf bs), false) else (acc ++ wordsAt q ((pieces 32 bs).map mkB), 0, true)
theorem words_l0 (b : List Int) (hb : b.length ≤ 67108864) (e : Nat) (heb : e ≤ b.length) : ∀ (n : Nat) (bs : List UInt8), bs.length ≤ n → ∀ (q : Nat) (acc : List S36), At b q bs → q + bs.length = e → acc.length ≤ q →
    Evt (fun k => armisticeref02_words.l0 k b (e : Int) acc (q : Int)) (wordsEnd acc q bs)
  | n, bs, hn, q, acc, hat, he, hacc => by
    obtain ⟨xs, ys, rfl, hxs, hys⟩ := split_plain bs
    rw [List.length_append] at he hn
    refine evt_step (g := fun k => armisticeref02_words.l1 k b (e : Int) acc (q : Int) (q : Int)) ?_ (fun k => by rw [armisticeref02_words.l0])
    refine words_l1 b hb e acc q _ xs ys q hat (by omega) heb hxs hys ?_
    have hnum : numsOf (xs ++ ys) = (xs.map fun b => (b.toNat : Int)) ++ numsOf ys := by unfold numsOf; rw [List.map_append]
    cases xs with
    | nil =>
      refine evt_const (fun k => ?_)
      have hw : wrongS false 0 (numsOf ([] ++ ys)) = 0 := by
        rcases hys with rfl | ⟨c, t, rfl, hc⟩
        · rfl
        · show wrongS false 0 ((c.toNat : Int) :: numsOf t) = 0
          rw [wrongS, plainC_eq, hc]
          simp
      unfold wordsEnd
      rw [hw, armisticeref02_words.j2, if_pos (by simp), if_pos (by decide)]
      simp
    | cons x xs =>
      have hsl := at_slice hat
      have hne : ¬ (((q + (x :: xs).length : Nat) : Int) = (q : Int)) := by simp only [List.length_cons]; omega
      have hlen : q + (x :: xs).length ≤ b.length := by omega
      have hstr : strOfNums ((b.take (((q + (x :: xs).length : Nat) : Int)).toNat).drop ((q : Int)).toNat) = mkB (x :: xs) := by
        rw [Int.toNat_natCast, Int.toNat_natCast, hsl, strOf_nums]
      have hwr : wrongS false 0 (numsOf (x :: xs ++ ys)) = wrongS true ((x :: xs).length : Int) (numsOf ys) := by
        rw [hnum, wrongS_word (numsOf ys) (x :: xs) false 0 (by simp) (fun c hc => plain_range (hxs c hc)), Int.zero_add]
      rcases hys with rfl | ⟨c, t, rfl, hc⟩
      · refine evt_const (fun k => ?_)
        have hw : wrongS false 0 (numsOf (x :: xs ++ [])) = -1 := by
          rw [hwr]
          show wrongS true _ [] = -1
          rw [wrongS, if_pos rfl]
        unfold wordsEnd
        rw [hw, if_neg (by decide), armisticeref02_words.j2, if_neg hne, if_pos (by omega), if_pos (by omega), if_pos (by omega), if_pos (by omega), hstr]
        simp only [Option.bind_some]
        rw [if_pos (by simp only [List.length_nil] at he; omega), List.append_nil, pieces_last _ (fun c hc => plain_range (hxs c hc))]
        rfl
      · have hat2 := at_drop hat
        obtain ⟨h1, h2⟩ := at_head hat2
        have k1 : t.length ≤ n - 1 := by simp only [List.length_cons] at hn; omega
        have k2 : n - 1 < n := by simp only [List.length_cons] at hn; omega
        have k3 : q + (x :: xs).length + 1 + t.length = e := by simp only [List.length_cons] at he ⊢; omega
        have k4 : (acc ++ [(⟨mkB (x :: xs), q⟩ : S36)]).length ≤ q + (x :: xs).length + 1 := by rw [List.length_append]; simp only [List.length_cons, List.length_nil]; omega
        have g1 : 0 ≤ (q : Int) := by omega
        have g2 : (q : Int) ≤ ((q + (x :: xs).length : Nat) : Int) := by omega
        have g3 : ((q + (x :: xs).length : Nat) : Int) ≤ (b.length : Int) := by omega
        have g4 : acc.length < 5864062014805 := Nat.lt_of_le_of_lt (Nat.le_trans hacc (Nat.le_trans (Nat.le_trans (Nat.le_add_right _ _) hlen) hb)) (by decide)
        have g5 : ¬ ((q + (x :: xs).length : Nat) : Int) = (e : Int) := by simp only [List.length_cons] at he ⊢; omega
        have g6 : 0 ≤ ((q + (x :: xs).length : Nat) : Int) := by omega
        have g7 : ((q + (x :: xs).length : Nat) : Int) < (b.length : Int) := by omega
        have ew : wrap64 (((q + (x :: xs).length : Nat) : Int) + 1) = ((q + (x :: xs).length + 1 : Nat) : Int) := wrap_succ _ (Nat.lt_of_le_of_lt (Nat.le_trans hlen hb) (by decide))
        by_cases c32 : c = 32
        · subst c32
          have ih := words_l0 b hb e heb (n - 1) t k1 (q + (x :: xs).length + 1) (acc ++ [⟨mkB (x :: xs), q⟩]) (at_tail hat2) k3 k4
          have hend : wordsEnd acc q (x :: xs ++ 32 :: t) = wordsEnd (acc ++ [⟨mkB (x :: xs), q⟩]) (q + (x :: xs).length + 1) t := by
            have hw : wrongS false 0 (numsOf (x :: xs ++ 32 :: t)) = if wrongS false 0 (numsOf t) = -1 then -1 else wrongS false 0 (numsOf t) + (((x :: xs).length : Int) + 1) := by
              rw [hwr]
              show wrongS true _ ((32 : Int) :: numsOf t) = _
              rw [wrongS, if_neg (by decide), if_pos ⟨rfl, rfl⟩, wrongS_shift _ _ _ (by omega)]
            have hr := wrongS_range (numsOf t) false 0
            simp only [Int.natCast_zero, Int.zero_add] at hr
            unfold wordsEnd
            rw [hw, pieces_word _ _ (fun c hc => plain_range (hxs c hc))]
            by_cases hm : wrongS false 0 (numsOf t) = -1
            · rw [if_pos hm, hm, if_neg (by decide), if_neg (by decide), List.map_cons, wordsAt, List.append_assoc]
              have : ((q + (x :: xs).length + 1 : Nat) : Int) = (q : Int) + ((mkB (x :: xs)).size : Int) + 1 := by
                have : (mkB (x :: xs)).size = (x :: xs).length := rfl
                rw [this]
                omega
              rw [this]
              rfl
            · rw [if_neg hm, if_pos (by omega), if_pos (by omega)]
              congr 1
              congr 1
              omega
          rw [hend]
          refine evt_step ih (fun k => ?_)
          rw [armisticeref02_words.j2, if_neg hne, if_pos g1, if_pos g2, if_pos g3, if_pos g4, hstr]
          simp only [Option.bind_some]
          rw [if_neg g5, if_pos g6, if_pos g7, h1, if_pos (by decide), ew]
        · refine evt_const (fun k => ?_)
          have c32i : ¬ ((c.toNat : Int) = 32) := by
            intro h
            apply c32
            apply UInt8.toNat.inj
            have : (32 : UInt8).toNat = 32 := rfl
            omega
          have hw : wrongS false 0 (numsOf (x :: xs ++ c :: t)) = ((x :: xs).length : Int) := by
            rw [hwr]
            show wrongS true _ ((c.toNat : Int) :: numsOf t) = _
            rw [wrongS, plainC_eq, hc, if_neg (by simp), if_neg (fun h => c32i h.1)]
          unfold wordsEnd
          rw [hw, if_pos (Int.natCast_nonneg _), armisticeref02_words.j2, if_neg hne, if_pos g1, if_pos g2, if_pos g3, if_pos g4, hstr]
          simp only [Option.bind_some]
          rw [if_neg g5, if_pos g6, if_pos g7, h1, if_neg c32i]
          simp
termination_by n => n
theorem evt_bind {α β : Type} {f g : Nat → Option α} {w : Nat → Option β} {r : α} {v : β} (hw : Evt w v) (h : Evt g r) (hs : ∀ k, w k = some v → f (k + 1) = g k) : Evt f r := by
  obtain ⟨K1, h1⟩ := hw
  obtain ⟨K2, h2⟩ := h
  refine ⟨K1 + K2 + 1, fun k hk => ?_⟩
  obtain ⟨k, rfl⟩ : ∃ m, k = m + 1 := ⟨k - 1, by omega⟩
  rw [hs k (h1 k (by omega))]
  exact h2 k (by omega)
theorem rd_nat (b : List Int) (n : Nat) : rd b (n : Int) = b[n]?.getD 0 := by
  show b.getD ((n : Int)).toNat 0 = _
  rw [Int.toNat_natCast, List.getD_eq_getElem?_getD]
theorem lineOf_ne : ∀ (l : List Int) (x : Int), x ∈ lineOf l → x ≠ 10
  | [], x, h => by cases h
  | y :: l, x, h => by
    unfold lineOf at h
    rw [List.takeWhile_cons] at h
    split at h
    · rename_i hy
      rcases List.mem_cons.1 h with rfl | h
      · simpa using hy
      · exact lineOf_ne l x h
    · cases h
theorem line_get (b : List Int) (p j : Nat) (h : j < (lineOf (b.drop p)).length) : b[p + j]? = (lineOf (b.drop p))[j]? ∧ rd b ((p + j : Nat) : Int) = (lineOf (b.drop p))[j] ∧ (lineOf (b.drop p))[j] ≠ 10 ∧ p + j < b.length := by
  have h1 : b[p + j]? = (lineOf (b.drop p))[j]? := by
    have h2 : (lineOf (b.drop p))[j]? = ((b.drop p).take (lineOf (b.drop p)).length)[j]? := by rw [← lineOf_take]
    rw [h2, List.getElem?_take, if_pos h, List.getElem?_drop]
  have h3 : b[p + j]? = some (lineOf (b.drop p))[j] := by rw [h1, List.getElem?_eq_getElem h]
  refine ⟨h1, by rw [rd_nat, h3]; rfl, ?_, (List.getElem?_eq_some_iff.1 h3).1⟩
  exact lineOf_ne _ _ (List.getElem_mem h)
theorem lines_l1 (b : List Int) (hb : b.length ≤ 67108864) (acc : List S34) (p : Nat) (r : List S34 × Int × Int)
    (h : Evt (fun k => armisticeref02_Lines.j2 k b acc (p : Int) ((p + (lineOf (b.drop p)).length : Nat) : Int)) r) : ∀ d j, j + d = (lineOf (b.drop p)).length → Evt (fun k => armisticeref02_Lines.l1 k b acc (p : Int) ((p + j : Nat) : Int)) r
  | 0, j, hj => by
    obtain rfl : j = (lineOf (b.drop p)).length := by omega
    refine evt_step h (fun k => ?_)
    have hend := lineOf_end (b.drop p)
    rw [List.getElem?_drop] at hend
    rw [armisticeref02_Lines.l1]
    rcases hend with he | he
    · rw [List.getElem?_eq_none_iff] at he
      rw [if_neg (by omega)]
    · have hlt := (List.getElem?_eq_some_iff.1 he).1
      have hr : rd b ((p + (lineOf (b.drop p)).length : Nat) : Int) = 10 := by rw [rd_nat, he]; rfl
      rw [if_pos (by omega), if_pos (by omega), if_pos hr]
  | d + 1, j, hj => by
    have hjl : j < (lineOf (b.drop p)).length := by omega
    obtain ⟨_, h2, h3, h4⟩ := line_get b p j hjl
    have a1 : ((p + j : Nat) : Int) < (b.length : Int) := by omega
    have a2 : 0 ≤ ((p + j : Nat) : Int) := by omega
    have ew : wrap64 (((p + j : Nat) : Int) + 1) = ((p + (j + 1) : Nat) : Int) := wrap_succ (p + j) (Nat.lt_of_lt_of_le h4 (Nat.le_trans hb (by decide)))
    refine evt_step (lines_l1 b hb acc p r h d (j + 1) (by omega)) (fun k => ?_)
    rw [armisticeref02_Lines.l1, if_pos a1, if_pos a2, if_neg (by rw [h2]; exact h3), ew]
def linesEnd (acc : List S34) (r : List S34 × Int × Int) : List S34 × Int × Int := if r.2.1 = 0 then (acc ++ r.1, 0, 0) else ([], r.2)
theorem lines_l0 (b : List Int) (hu : isU8 b = true) (hb : b.length ≤ 67108864) : ∀ (f p : Nat) (acc : List S34), (b.drop p).length < f → acc.length ≤ p → p ≤ b.length + 1 →
    Evt (fun k => armisticeref02_Lines.l0 k b acc (p : Int)) (linesEnd acc (linesOf (cutF f p (b.drop p))))
  | 0, p, acc, hf, _, _ => by omega
  | f + 1, p, acc, hf, hacc, hp => by
    rw [cutF]
    by_cases c : (b.drop p).isEmpty = true
    · rw [if_pos c]
      have hpl : b.length ≤ p := by
        rw [List.isEmpty_iff] at c
        have := congrArg List.length c
        rw [List.length_drop, List.length_nil] at this
        omega
      refine evt_const (fun k => ?_)
      rw [armisticeref02_Lines.l0, if_neg (by omega)]
      unfold linesEnd linesOf
      rw [if_pos rfl, List.append_nil]
    · rw [if_neg c]
      have hpl : p < b.length := by
        apply Nat.lt_of_not_le
        intro hle
        rw [List.drop_of_length_le hle] at c
        exact c rfl
      have hle := lineOf_le (b.drop p)
      have huL : isU8 (lineOf (b.drop p)) = true := by rw [lineOf_take]; exact isU8_take (isU8_drop hu _) _
      have hget := line_get b p
      rw [List.length_drop] at hle hf
      have ed : (b.drop p).drop ((lineOf (b.drop p)).length + 1) = b.drop (p + (lineOf (b.drop p)).length + 1) := by rw [List.drop_drop, Nat.add_assoc]
      rw [ed]
      refine evt_step (g := fun k => armisticeref02_Lines.l1 k b acc (p : Int) ((p + 0 : Nat) : Int)) ?_ (fun k => by rw [armisticeref02_Lines.l0, if_pos (by omega)]; rfl)
      refine lines_l1 b hb acc p _ ?_ (lineOf (b.drop p)).length 0 (by omega)
      have ih := fun acc' ha => lines_l0 b hu hb f (p + (lineOf (b.drop p)).length + 1) acc' (by rw [List.length_drop]; omega) ha (by omega)
      have hne := hget
      generalize hL : lineOf (b.drop p) = L at *
      have a1 : wrap64 (((p + L.length : Nat) : Int) - (p : Int)) = (L.length : Int) := by rw [wrap_small] <;> omega
      have a2 : wrap64 (((p + L.length : Nat) : Int) + 1) = ((p + L.length + 1 : Nat) : Int) := wrap_succ _ (Nat.lt_of_le_of_lt (by omega : p + L.length ≤ 67108864) (by decide))
      rw [linesOf_cons]
      by_cases c1 : 65536 < L.length
      · have hv : verdict (p, L) = .bad 4 p := by unfold verdict; dsimp only; rw [if_pos c1]
        rw [hv]
        refine evt_const (fun k => ?_)
        rw [armisticeref02_Lines.j2, a1, if_pos (by omega)]
        rfl
      · have ha : acc.length ≤ p + L.length + 1 := by omega
        have b0 : ¬ (L.length : Int) > 65536 := by omega
        have hskip : Evt (fun k => armisticeref02_Lines.j3 k b acc (p : Int) ((p + L.length : Nat) : Int) false) (linesEnd acc (linesOf (cutF f (p + L.length + 1) (b.drop (p + L.length + 1))))) :=
          evt_step (ih acc ha) (fun k => by rw [armisticeref02_Lines.j3, if_neg (by decide), a2])
        by_cases c2 : L.length = 0
        · have hv : verdict (p, L) = .skip := by
            unfold verdict
            dsimp only
            rw [if_neg c1, if_pos (.inl (by rw [List.isEmpty_iff]; exact List.length_eq_zero_iff.1 c2))]
          rw [hv]
          have b1 : ¬ ((p + L.length : Nat) : Int) > (p : Int) := by omega
          exact evt_step hskip (fun k => by rw [armisticeref02_Lines.j2, a1, if_neg b0, if_neg b1])
        · have hpos : 0 < L.length := by omega
          obtain ⟨_, g2, _, _⟩ := hget 0 hpos
          rw [Nat.add_zero] at g2
          have b1 : ((p + L.length : Nat) : Int) > (p : Int) := by omega
          have b2 : 0 ≤ (p : Int) := by omega
          have b3 : (p : Int) < (b.length : Int) := by omega
          have hhd : L.headD 0 = L[0] := by
            cases L with
            | nil => simp at hpos
            | cons x r => rfl
          have hemp : ¬ L.isEmpty = true := by
            rw [List.isEmpty_iff]
            intro h
            rw [h] at hpos
            simp at hpos
          by_cases c3 : L[0] = 35
          · have hv : verdict (p, L) = .skip := by
              unfold verdict
              dsimp only
              rw [if_neg c1, if_pos (.inr (by rw [hhd]; exact c3))]
            rw [hv]
            exact evt_step hskip (fun k => by rw [armisticeref02_Lines.j2, a1, if_neg b0, if_pos b1, if_pos b2, if_pos b3, g2, c3]; rfl)
          · have hat : At b p (strOfNums L).data.toList := fun j hj => by
              have hjl : j < L.length := by
                have h1 : (strOfNums L).data.toList.length = L.length := by rw [← strOfNums_size L]; rfl
                omega
              obtain ⟨q1, _, _, _⟩ := hget j hjl
              have hbs : (bytesOf (strOfNums L))[j]? = L[j]? := by rw [bytes_strOf L huL]
              rw [q1, ← hbs]
              unfold bytesOf
              rw [List.getElem?_map, List.getElem?_eq_getElem hj]
              rfl
            have hbl : (strOfNums L).data.toList.length = L.length := by rw [← strOfNums_size L]; rfl
            have hw := words_l0 b hb (p + L.length) (by omega) _ _ (Nat.le_refl _) p [] hat (by omega) (Nat.zero_le _)
            have hnum : numsOf (strOfNums L).data.toList = L := bytes_strOf L huL
            unfold wordsEnd at hw
            rw [hnum] at hw
            have hj2 : ∀ {r}, Evt (fun k => armisticeref02_Lines.j3 k b acc (p : Int) ((p + L.length : Nat) : Int) true) r → Evt (fun k => armisticeref02_Lines.j2 k b acc (p : Int) ((p + L.length : Nat) : Int)) r := fun h =>
              evt_step h (fun k => by
                have : (L[0] != 35) = true := by simpa using c3
                rw [armisticeref02_Lines.j2, a1, if_neg b0, if_pos b1, if_pos b2, if_pos b3, g2, this])
            by_cases c4 : 0 ≤ wrongS false 0 L
            · have hv : verdict (p, L) = .bad 5 (p + wrongS false 0 L) := by
                unfold verdict
                dsimp only
                rw [if_neg c1, if_neg (by rw [hhd]; exact fun h => h.elim hemp c3), if_pos c4]
              rw [hv]
              rw [if_pos c4] at hw
              exact hj2 (evt_bind (w := fun k => armisticeref02_words.f k b (p : Int) ((p + L.length : Nat) : Int)) hw ⟨0, fun _ _ => rfl⟩ (g := fun _ => some ([], 5, (p : Int) + wrongS false 0 L)) (fun k hk => by
                rw [armisticeref02_Lines.j3, if_pos rfl, hk]
                rfl))
            · have hv : verdict (p, L) = .line ⟨p, wordsAt p (piecesB (strOfNums L))⟩ := by
                unfold verdict
                dsimp only
                rw [if_neg c1, if_neg (by rw [hhd]; exact fun h => h.elim hemp c3), if_neg c4]
              rw [hv]
              rw [if_neg c4, List.nil_append] at hw
              have b4 : acc.length < 4398046511104 := Nat.lt_of_le_of_lt (Nat.le_trans hacc (Nat.le_trans (Nat.le_of_lt hpl) hb)) (by decide)
              have ih2 := ih (acc ++ [⟨p, wordsAt p (piecesB (strOfNums L))⟩]) (by rw [List.length_append, List.length_singleton]; omega)
              have he : linesEnd acc (if (linesOf (cutF f (p + L.length + 1) (b.drop (p + L.length + 1)))).2.1 = 0 then ((⟨p, wordsAt p (piecesB (strOfNums L))⟩ : S34) :: (linesOf (cutF f (p + L.length + 1) (b.drop (p + L.length + 1)))).1, (linesOf (cutF f (p + L.length + 1) (b.drop (p + L.length + 1)))).2) else ([], (linesOf (cutF f (p + L.length + 1) (b.drop (p + L.length + 1)))).2))
                  = linesEnd (acc ++ [⟨p, wordsAt p (piecesB (strOfNums L))⟩]) (linesOf (cutF f (p + L.length + 1) (b.drop (p + L.length + 1)))) := by
                unfold linesEnd
                by_cases h0 : (linesOf (cutF f (p + L.length + 1) (b.drop (p + L.length + 1)))).2.1 = 0
                · rw [if_pos h0, if_pos h0, if_pos h0, List.append_assoc]
                  rfl
                · rw [if_neg h0, if_neg h0, if_neg h0]
              dsimp only
              rw [he]
              exact hj2 (evt_bind (w := fun k => armisticeref02_words.f k b (p : Int) ((p + L.length : Nat) : Int)) hw ih2 (fun k hk => by
                rw [armisticeref02_Lines.j3, if_pos rfl, hk]
                simp only [Option.bind_some, if_true]
                rw [if_pos b4, a2]
                rfl))
theorem ref_lines (b : List Int) (hu : isU8 b = true) : ∃ K, ∀ k, K ≤ k → armisticeref02_Lines.f k b = token_Lines.f b := by
  by_cases c : 67108864 < b.length
  · refine ⟨0, fun k _ => ?_⟩
    unfold armisticeref02_Lines.f token_Lines.f
    rw [if_pos (by omega), if_pos hu, if_pos c]
  · obtain ⟨K, h⟩ := lines_l0 b hu (by omega) (b.length + 1) 0 [] (by rw [List.drop_zero]; omega) (Nat.le_refl _) (Nat.zero_le _)
    refine ⟨K, fun k hk => ?_⟩
    have h1 := h k hk
    rw [List.drop_zero] at h1
    unfold armisticeref02_Lines.f token_Lines.f
    rw [if_neg (by omega), if_pos hu, if_neg c]
    refine h1.trans ?_
    have hc := linesOf_cases (cutF (b.length + 1) 0 b)
    unfold linesEnd
    by_cases h0 : (linesOf (cutF (b.length + 1) 0 b)).2.1 = 0
    · rw [if_pos h0, List.nil_append]
      rcases hc with hc | hc
      · congr 1
        exact Prod.ext rfl (Prod.ext hc.1.symm hc.2.symm)
      · exact absurd h0 hc.1
    · rw [if_neg h0]
      rcases hc with hc | hc
      · exact absurd hc.1 h0
      · congr 1
        exact Prod.ext hc.2.symm rfl
end Go.Proofs.YthhdjbpmkfnhjaaDoor.Pure
