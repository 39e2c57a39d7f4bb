/- What Read accepts is just the words of the operation's text, and may be. -/
import Derived.Test.YtoenklncjbcgiaaDoorMBack
import Derived.Test.YtoenklncjbcgiaaDoorERead
import Derived.Test.YtoenklncjbcgiaaDoorEText
import Derived.Test.YtoenklncjbcgiaaDoorEJoin
namespace Go.Proofs.YtoenklncjbcgiaaDoor.P
open Go.RowKit Go.Proofs.YtoenklncjbcgiaaDoorW.PrintWords Go.Proofs.YtoenklncjbcgiaaDoorW.PrintLast
set_option linter.unusedVariables false
set_option linter.unusedSimpArgs false

theorem whole_back {s : ByteArray} {n : Int} (h : wholeF s = some (n, 0)) : isI64 n ∧ putStr n = s := by
  obtain ⟨r, hg, h⟩ := Option.bind_eq_some_iff.1 h
  obtain ⟨x, e, i⟩ := r
  simp only [Option.some.injEq, Prod.mk.injEq] at h
  obtain ⟨rfl, he⟩ := h
  have he0 : e = 0 := by
    split at he
    · assumption
    · cases he
  subst he0
  rcases get_cases s with ⟨_, h1⟩ | ⟨_, i', _, _, h1⟩ | ⟨h20, hne, hgood, h1⟩
  · rw [h1] at hg
    simp at hg
  · rw [h1] at hg
    simp at hg
  · rw [h1] at hg
    exact put_get s h20 hne hgood x 0 i (Option.some.inj hg) rfl
theorem idx_word (s : ByteArray) : ∀ (l : List Kd1) (k i : Nat), Lib.idxByFrom (fun _ y => decide (y.word = s)) default l k = (i : Int) → k ≤ i ∧ ∃ y, l[i - k]? = some y ∧ y.word = s
  | [], k, i, h => by
    have : (-1 : Int) = (i : Int) := h
    omega
  | y :: l, k, i, h => by
    unfold Lib.idxByFrom at h
    by_cases c : y.word = s
    · rw [if_pos (by simp [c])] at h
      have : k = i := by omega
      subst this
      exact ⟨Nat.le_refl _, y, by simp, c⟩
    · rw [if_neg (by simp [c])] at h
      obtain ⟨h1, z, h2, h3⟩ := idx_word s l (k + 1) i h
      refine ⟨by omega, z, ?_, h3⟩
      rw [show i - k = (i - (k + 1)) + 1 by omega]
      simpa using h2
theorem kind_word {s : ByteArray} {k : Int} (h : operation_Kind.f s = some (k, 0)) : (1 ≤ k ∧ k ≤ 15) ∧ (kdOf k).word = s := by
  unfold operation_Kind.f at h
  simp only [Option.some.injEq, Prod.mk.injEq] at h
  obtain ⟨hk, he⟩ := h
  rcases kindIdx_cases s with ⟨i, hi, hx⟩ | hx
  · have hin : 1 ≤ k ∧ k ≤ 15 := by omega
    refine ⟨hin, ?_⟩
    obtain ⟨_, y, hy, hw⟩ := idx_word s (kinds15.take 15) 0 i hx
    unfold kdOf
    rw [if_pos hin, show (k - 1).toNat = i by omega]
    have hy' : kinds15[i]? = some y := by simpa [kinds15] using hy
    rw [getElem!_def, hy']
    exact hw
  · rw [if_pos hx] at he
    cases he
theorem run_cons {l : List ByteArray} {s : StepK} {ss : List StepK} {i : Nat} {x : Int × Int × Int × Int} {R : (Int × Int × Int × Int) × Nat × Int} (h : runSteps l (s :: ss) i x = some R) (h0 : R.2.2 = 0) :
    ¬ i + 1 = l.length ∧ ∃ y, stepF s (rdOf ByteArray.empty l ((i : Int) + 1)) x = some (y, 0) ∧ runSteps l ss (i + 1) y = some R := by
  unfold runSteps at h
  by_cases c : i + 1 = l.length
  · rw [if_pos c] at h
    have := Option.some.inj h
    subst this
    cases h0
  · rw [if_neg c] at h
    refine ⟨c, ?_⟩
    obtain ⟨⟨y, e⟩, hs, h⟩ := Option.bind_eq_some_iff.1 h
    by_cases he : e = 0
    · subst he
      rw [if_pos rfl] at h
      exact ⟨y, hs, h⟩
    · rw [if_neg he] at h
      have := Option.some.inj h
      subst this
      exact absurd h0 he
theorem ba_of {s : ByteArray} {l : List UInt8} (h : s.toList = l) : s = ⟨l.toArray⟩ := by
  rw [ByteArray.toList_eq] at h
  cases s
  subst h
  rfl
theorem first_back {s : ByteArray} {x y : Int × Int × Int × Int} (h : stepF .first s x = some (y, 0)) : isI64 y.1 ∧ putStr y.1 = s ∧ y.2 = x.2 := by
  obtain ⟨⟨n, e⟩, hw, h⟩ := Option.bind_eq_some_iff.1 h
  simp only [Option.some.injEq, Prod.mk.injEq] at h
  obtain ⟨rfl, rfl⟩ := h
  exact ⟨(whole_back hw).1, (whole_back hw).2, rfl⟩
theorem second_back {s : ByteArray} {x y : Int × Int × Int × Int} (h : stepF .second s x = some (y, 0)) : isI64 y.2.1 ∧ putStr y.2.1 = s ∧ y.1 = x.1 ∧ y.2.2 = x.2.2 := by
  obtain ⟨⟨n, e⟩, hw, h⟩ := Option.bind_eq_some_iff.1 h
  simp only [Option.some.injEq, Prod.mk.injEq] at h
  obtain ⟨rfl, rfl⟩ := h
  exact ⟨(whole_back hw).1, (whole_back hw).2, rfl, rfl⟩
theorem arrow_back {s : ByteArray} {x y : Int × Int × Int × Int} (h : stepF .arrow s x = some (y, 0)) : s = ⟨#[45, 62]⟩ ∧ y = x := by
  unfold stepF at h
  simp only [Option.some.injEq, Prod.mk.injEq] at h
  obtain ⟨rfl, he⟩ := h
  split at he
  · exact ⟨ba_of (by assumption), rfl⟩
  · cases he
theorem result_back {s : ByteArray} {x y : Int × Int × Int × Int} (h : stepF .result s x = some (y, 0)) : y.1 = x.1 ∧ y.2.1 = x.2.1 ∧ isI64 y.2.2.2 ∧ toldB y.2.2.1 y.2.2.2 = s := by
  unfold stepF at h
  simp only at h
  have z : isI64 0 := by
    show (-9223372036854775808 : Int) ≤ 0 ∧ (0 : Int) ≤ 9223372036854775807
    omega
  by_cases c : s.toList = [111, 107]
  · rw [if_pos c] at h
    simp only [Option.some.injEq, Prod.mk.injEq] at h
    obtain ⟨rfl, _⟩ := h
    exact ⟨rfl, rfl, z, (ba_of c).symm⟩
  · rw [if_neg c] at h
    by_cases d : s.toList = [110, 111, 110, 101]
    · rw [if_pos d] at h
      simp only [Option.some.injEq, Prod.mk.injEq] at h
      obtain ⟨rfl, _⟩ := h
      exact ⟨rfl, rfl, z, (ba_of d).symm⟩
    · rw [if_neg d] at h
      obtain ⟨⟨n, e⟩, hw, h⟩ := Option.bind_eq_some_iff.1 h
      simp only [Option.some.injEq, Prod.mk.injEq] at h
      obtain ⟨rfl, he⟩ := h
      have he0 : e = 0 := by
        split at he
        · assumption
        · cases he
      subst he0
      exact ⟨rfl, rfl, (whole_back hw).1, (whole_back hw).2⟩
theorem list3 (l : List ByteArray) (h : l.length = 3) : l = [rdOf ByteArray.empty l 0, rdOf ByteArray.empty l 1, rdOf ByteArray.empty l 2] := by
  match l, h with
  | [a, b, c], _ => rfl
theorem list4 (l : List ByteArray) (h : l.length = 4) : l = [rdOf ByteArray.empty l 0, rdOf ByteArray.empty l 1, rdOf ByteArray.empty l 2, rdOf ByteArray.empty l 3] := by
  match l, h with
  | [a, b, c, d], _ => rfl
theorem list5 (l : List ByteArray) (h : l.length = 5) : l = [rdOf ByteArray.empty l 0, rdOf ByteArray.empty l 1, rdOf ByteArray.empty l 2, rdOf ByteArray.empty l 3, rdOf ByteArray.empty l 4] := by
  match l, h with
  | [a, b, c, d, e], _ => rfl
theorem end_ok {l : List ByteArray} {m : Nat} {k : Int} {R : (Int × Int × Int × Int) × Nat × Int} {a b rk rn at_ n : Int} (h : endRead l m k R = some (n, a, b, rk, rn, at_, 0)) :
    R.2.2 = 0 ∧ ¬ m + 1 < l.length ∧ operation_Check.f k R.1.1 R.1.2.1 R.1.2.2.1 R.1.2.2.2 = some 0 ∧ n = k ∧ a = R.1.1 ∧ b = R.1.2.1 ∧ rk = R.1.2.2.1 ∧ rn = R.1.2.2.2 ∧ at_ = 0 := by
  unfold endRead at h
  by_cases c0 : R.2.2 ≠ 0
  · rw [if_pos c0] at h
    simp only [Option.some.injEq, Prod.mk.injEq] at h
    exact absurd h.2.2.2.2.2.2 c0
  · rw [if_neg c0] at h
    by_cases c1 : m + 1 < l.length
    · rw [if_pos c1] at h
      simp at h
    · rw [if_neg c1] at h
      obtain ⟨c, hc, h⟩ := Option.bind_eq_some_iff.1 h
      by_cases d0 : c = 0
      · subst d0
        rw [if_pos rfl] at h
        simp only [Option.some.injEq, Prod.mk.injEq] at h
        obtain ⟨rfl, rfl, rfl, rfl, rfl, rfl, _⟩ := h
        exact ⟨by omega, c1, hc, rfl, rfl, rfl, rfl, rfl, rfl⟩
      · exfalso
        rw [if_neg d0] at h
        split at h
        · simp only [Option.some.injEq, Prod.mk.injEq] at h
          omega
        · split at h
          · simp only [Option.some.injEq, Prod.mk.injEq] at h
            omega
          · simp only [Option.some.injEq, Prod.mk.injEq] at h
            omega
/-- Words that are an operation are the words of its text, and the operation may be. -/
theorem read_back {l : List ByteArray} {k a b rk rn at_ : Int} (h : operation_Read.f l = some (k, a, b, rk, rn, at_, 0)) :
    at_ = 0 ∧ operation_Check.f k a b rk rn = some 0 ∧ isI64 a ∧ isI64 b ∧ isI64 rn ∧ l = textWords (kdOf k) a b rk rn := by
  have z : isI64 0 := by
    show (-9223372036854775808 : Int) ≤ 0 ∧ (0 : Int) ≤ 9223372036854775807
    omega
  unfold operation_Read.f at h
  by_cases hl : l.length = 0
  · rw [if_pos hl] at h
    simp at h
  · rw [if_neg hl] at h
    obtain ⟨⟨n, e0⟩, hk, h⟩ := Option.bind_eq_some_iff.1 h
    by_cases he : e0 = 0
    · subst he
      rw [if_neg (show ¬ (0 : Int) ≠ 0 by decide)] at h
      obtain ⟨R, hR, hE⟩ := Option.bind_eq_some_iff.1 h
      obtain ⟨hin, hw⟩ := kind_word hk
      obtain ⟨h0, hlen, hc, rfl, rfl, rfl, rfl, rfl, rfl⟩ := end_ok hE
      have h3 : (kdOf k).args = 0 ∨ (kdOf k).args = 1 ∨ (kdOf k).args = 2 := by
        unfold kdOf
        rw [if_pos hin]
        exact kinds_args3 _ (kdOf_mem k hin)
      rcases h3 with h3 | h3 | h3
      · have hs : stepsOf (kdOf k).args = [.arrow, .result] := by rw [h3]; rfl
        rw [hs] at hR hlen
        obtain ⟨n1, y1, s1, hR⟩ := run_cons hR h0
        obtain ⟨n2, y2, s2, hR⟩ := run_cons hR h0
        obtain rfl := (Option.some.inj hR).symm
        obtain ⟨q1, rfl⟩ := arrow_back s1
        obtain ⟨t1, t2, t3, q2⟩ := result_back s2
        simp only [List.length_cons, List.length_nil] at hlen
        have hl3 : l.length = 3 := by omega
        refine ⟨rfl, hc, by rw [t1]; exact z, by rw [t2]; exact z, t3, ?_⟩
        rw [list3 l hl3]
        unfold textWords
        rw [if_pos h3, hw, q2]
        have q1' : rdOf ByteArray.empty l 1 = ⟨#[45, 62]⟩ := q1
        rw [q1']
        rfl
      · have hs : stepsOf (kdOf k).args = [.first, .arrow, .result] := by rw [h3]; rfl
        rw [hs] at hR hlen
        obtain ⟨n1, y1, s1, hR⟩ := run_cons hR h0
        obtain ⟨n2, y2, s2, hR⟩ := run_cons hR h0
        obtain ⟨n3, y3, s3, hR⟩ := run_cons hR h0
        obtain rfl := (Option.some.inj hR).symm
        obtain ⟨u1, u2, u3⟩ := first_back s1
        obtain ⟨q1, rfl⟩ := arrow_back s2
        obtain ⟨t1, t2, t3, q2⟩ := result_back s3
        simp only [List.length_cons, List.length_nil] at hlen
        have hl4 : l.length = 4 := by omega
        refine ⟨rfl, hc, by rw [t1]; exact u1, by rw [t2, u3]; exact z, t3, ?_⟩
        rw [list4 l hl4]
        unfold textWords
        rw [if_neg (by omega), if_pos h3, hw, q2, t1, u2]
        have q1' : rdOf ByteArray.empty l 2 = ⟨#[45, 62]⟩ := q1
        rw [q1']
        rfl
      · have hs : stepsOf (kdOf k).args = [.first, .second, .arrow, .result] := by rw [h3]; rfl
        rw [hs] at hR hlen
        obtain ⟨n1, y1, s1, hR⟩ := run_cons hR h0
        obtain ⟨n2, y2, s2, hR⟩ := run_cons hR h0
        obtain ⟨n3, y3, s3, hR⟩ := run_cons hR h0
        obtain ⟨n4, y4, s4, hR⟩ := run_cons hR h0
        obtain rfl := (Option.some.inj hR).symm
        obtain ⟨u1, u2, u3⟩ := first_back s1
        obtain ⟨v1, v2, v3, v4⟩ := second_back s2
        obtain ⟨q1, rfl⟩ := arrow_back s3
        obtain ⟨t1, t2, t3, q2⟩ := result_back s4
        simp only [List.length_cons, List.length_nil] at hlen
        have hl5 : l.length = 5 := by omega
        refine ⟨rfl, hc, by rw [t1, v3]; exact u1, by rw [t2]; exact v1, t3, ?_⟩
        rw [list5 l hl5]
        unfold textWords
        rw [if_neg (by omega), if_neg (by omega), hw, q2, t1, t2, v3, u2, v2]
        have q1' : rdOf ByteArray.empty l 3 = ⟨#[45, 62]⟩ := q1
        rw [q1']
        rfl
    · rw [if_pos he] at h
      simp only [Option.some.injEq, Prod.mk.injEq] at h
      exact absurd h.2.2.2.2.2.2 he
/-! ### The words make a line -/
theorem kinds_words : ∀ x ∈ kinds15, x.word.size ≠ 0 ∧ plainW x.word = true ∧ x.word.data.toList.head? ≠ some 35 := by decide
theorem put_plain (a : Int) (ha : isI64 a) : (putStr a).size ≠ 0 ∧ plainW (putStr a) = true := by
  have hn : a.natAbs < 10 ^ 20 := by
    have h10 : (10 : Nat) ^ 20 = 100000000000000000000 := rfl
    unfold isI64 at ha
    omega
  have hd := put_data a
  have hp := (plain_digs 20 a.natAbs hn (by omega)).1
  have hs : (putStr a).data.toList = (if a < 0 then [45] else []) ++ (digs 20 a.natAbs).reverse.map fun x => UInt8.ofNat x.toNat := hd
  generalize (digs 20 a.natAbs).reverse.map (fun x => UInt8.ofNat x.toNat) = L at hs hp
  obtain ⟨h1, h2, _⟩ := hp
  constructor
  · intro h0
    have : (putStr a).data.toList.length = 0 := h0
    rw [hs] at this
    simp at this
    exact h1 this.2
  · unfold plainW
    rw [hs]
    refine List.all_eq_true.2 (fun c hc => ?_)
    rcases List.mem_append.1 hc with hc | hc
    · split at hc
      · simp only [List.mem_cons, List.not_mem_nil, or_false] at hc
        subst hc
        decide
      · cases hc
    · have := h2 c hc
      unfold isDig at this
      simp
      omega
theorem told_plain (rk rn : Int) (hn : isI64 rn) : (toldB rk rn).size ≠ 0 ∧ plainW (toldB rk rn) = true ∧ (toldB rk rn).size ≤ 21 := by
  unfold toldB
  split
  · decide
  · split
    · decide
    · exact ⟨(put_plain rn hn).1, (put_plain rn hn).2, putStr_size rn⟩
theorem bt_head (s w : ByteArray) (X : List UInt8) (hs : s.data.toList = w.data.toList ++ X) (h0 : w.size ≠ 0) (h : w.data.toList.head? ≠ some 35) : 0 < s.size ∧ bt s 0 ≠ 35 := by
  have hl : s.data.toList.length = w.data.toList.length + X.length := by rw [hs, List.length_append]
  have hw : 0 < w.data.toList.length := by rw [data_len]; omega
  have hpos : 0 < s.data.toList.length := by omega
  refine ⟨by rw [← data_len]; exact hpos, ?_⟩
  have := bt_data s 0 hpos
  rw [show bt s 0 = bt s ((0 : Nat) : Int) from rfl, this]
  intro e
  apply h
  have e2 : s.data.toList[0] = w.data.toList[0] := by
    simp only [hs]
    exact List.getElem_append_left hw
  rw [List.head?_eq_getElem?, List.getElem?_eq_getElem hw, ← e2]
  congr 1
  apply UInt8.toNat_inj.1
  have : ((s.data.toList[0]).toNat : Int) = 35 := e
  show (s.data.toList[0]).toNat = 35
  omega
attribute [local irreducible] putStr toldB plainW
theorem join_words (n a b rk rn : Int) (h : operation_Check.f n a b rk rn = some 0) (ha : isI64 a) (hb : isI64 b) (hn : isI64 rn) : token_Join.f (textWords (kdOf n) a b rk rn) = some (joinB (textWords (kdOf n) a b rk rn), 0) := by
  obtain ⟨hk, _, _⟩ := check_zero h
  have hm := kdOf_mem n hk
  have hkd : kdOf n = kinds15[(n - 1).toNat]! := by
    unfold kdOf
    rw [if_pos hk]
  rw [hkd]
  have h3 := kinds_args3 _ hm
  have h8 := kinds_word8 _ hm
  obtain ⟨w0, w1, w2⟩ := kinds_words _ hm
  generalize kinds15[(n - 1).toNat]! = x at h3 h8 w0 w1 w2
  have ha1 := putStr_size a
  have hb1 := putStr_size b
  obtain ⟨ha2, ha3⟩ := put_plain a ha
  obtain ⟨hb2, hb3⟩ := put_plain b hb
  obtain ⟨ht1, ht2, ht3⟩ := told_plain rk rn hn
  have hq : plainW ⟨#[45, 62]⟩ = true := by
    unfold plainW
    decide
  have nz : ∀ {s : ByteArray}, s.size ≠ 0 → ¬ s = ByteArray.empty := fun h e => h (by rw [e]; rfl)
  have hq2 : ¬ (⟨#[45, 62]⟩ : ByteArray) = ByteArray.empty := nz (by decide)
  have hw2 := nz w0
  have hp2 := nz ha2
  have hr2 := nz hb2
  have hs2 := nz ht1
  unfold token_Join.f
  rw [if_pos ?_]
  unfold textWords
  rcases h3 with h3 | h3 | h3
  · rw [if_pos h3]
    obtain ⟨g1, g2⟩ := bt_head (joinB ([x.word] ++ [] ++ [⟨#[45, 62]⟩, toldB rk rn])) x.word ([32] ++ [45, 62] ++ [32] ++ (toldB rk rn).data.toList) (by simp [joinB, Lib.join, List.intercalate, List.intersperse]) w0 w2
    refine ⟨by simp, by simp, by simp [hw2, w1, hq, hq2, hs2, ht2], ?_, g1, g2⟩
    show (Lib.join _ [32]).length ≤ 65536
    simp [Lib.join, List.intercalate, List.intersperse]
    omega
  · rw [if_neg (by omega), if_pos h3]
    obtain ⟨g1, g2⟩ := bt_head (joinB ([x.word] ++ [putStr a] ++ [⟨#[45, 62]⟩, toldB rk rn])) x.word ([32] ++ (putStr a).data.toList ++ [32] ++ [45, 62] ++ [32] ++ (toldB rk rn).data.toList) (by simp [joinB, Lib.join, List.intercalate, List.intersperse]) w0 w2
    refine ⟨by simp, by simp, by simp [hw2, w1, hq, hq2, hs2, ht2, hp2, ha3], ?_, g1, g2⟩
    show (Lib.join _ [32]).length ≤ 65536
    simp [Lib.join, List.intercalate, List.intersperse]
    omega
  · rw [if_neg (by omega), if_neg (by omega)]
    obtain ⟨g1, g2⟩ := bt_head (joinB ([x.word] ++ [putStr a, putStr b] ++ [⟨#[45, 62]⟩, toldB rk rn])) x.word ([32] ++ (putStr a).data.toList ++ [32] ++ (putStr b).data.toList ++ [32] ++ [45, 62] ++ [32] ++ (toldB rk rn).data.toList) (by simp [joinB, Lib.join, List.intercalate, List.intersperse]) w0 w2
    refine ⟨by simp, by simp, by simp [hw2, w1, hq, hq2, hs2, ht2, hp2, ha3, hr2, hb3], ?_, g1, g2⟩
    show (Lib.join _ [32]).length ≤ 65536
    simp [Lib.join, List.intercalate, List.intersperse]
    omega
end Go.Proofs.YtoenklncjbcgiaaDoor.P
