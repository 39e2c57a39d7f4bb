/- token: what the lines and words of a text are, in plain words. -/
import Derived.Test.YthhdjbpmkfnhjaaDoorPx3
import Derived.Lib.Bytealg
import Derived.Lib.Bytes
namespace Go.Proofs.YthhdjbpmkfnhjaaDoor.P
open Go.RowKit Go.Proofs.YthhdjbpmkfnhjaaDoorW.PrintWords Go.Proofs.YthhdjbpmkfnhjaaDoorW.PrintLast
set_option linter.unusedVariables false
set_option linter.unusedSimpArgs false

/-- The line at the head of some bytes. -/
def lineOf (l : List Int) : List Int := l.takeWhile (· != 10)
/-- All lines, each with where it begins (f: at most so many). -/
def cutF : Nat → Nat → List Int → List (Nat × List Int)
  | 0, _, _ => []
  | f + 1, p, l => if l.isEmpty then [] else (p, lineOf l) :: cutF f (p + (lineOf l).length + 1) (l.drop ((lineOf l).length + 1))
def isU8 (l : List Int) : Bool := l.all fun x => decide (0 ≤ x) && decide (x < 256)
def plainC (c : Int) : Bool := decide (33 ≤ c) && decide (c ≤ 126)
/-- The first byte of a line that may not stand there; -1: there is none. -/
def wrongS : Bool → Int → List Int → Int
  | word, i, [] => if word = true then -1 else i
  | word, i, c :: l => if plainC c = true then wrongS true (i + 1) l else if c = 32 ∧ word = true then wrongS false (i + 1) l else i
/-- What stands between separators. -/
def pieces (sep : UInt8) : List UInt8 → List (List UInt8)
  | [] => [[]]
  | c :: l => if c == sep then [] :: pieces sep l else match pieces sep l with
    | [] => [[c]]
    | p :: ps => (c :: p) :: ps
def piecesB (s : ByteArray) : List ByteArray := (pieces 32 s.data.toList).map fun l => ⟨l.toArray⟩
def wordsAt : Int → List ByteArray → List S36
  | _, [] => []
  | p, w :: ws => ⟨w, p⟩ :: wordsAt (p + (w.size : Int) + 1) ws
inductive Verdict
  | skip
  | bad (e p : Int)
  | line (x : S34)
def verdict (x : Nat × List Int) : Verdict :=
  if 65536 < x.2.length then .bad 4 x.1
  else if x.2.isEmpty ∨ x.2.headD 0 = 35 then .skip
  else if 0 ≤ wrongS false 0 x.2 then .bad 5 (x.1 + wrongS false 0 x.2) else .line ⟨x.1, wordsAt x.1 (piecesB (strOfNums x.2))⟩
def linesOf : List (Nat × List Int) → List S34 × Int × Int
  | [] => ([], 0, 0)
  | x :: xs => match verdict x with
    | .skip => linesOf xs
    | .bad e p => ([], e, p)
    | .line s => if (linesOf xs).2.1 = 0 then (s :: (linesOf xs).1, (linesOf xs).2) else ([], (linesOf xs).2)
def token_Lines.f (l : List Int) : Option (List S34 × Int × Int) :=
  if isU8 l = true then some (if 67108864 < l.length then ([], 4, 67108864) else linesOf (cutF (l.length + 1) 0 l)) else none

theorem lineOf_le (l : List Int) : (lineOf l).length ≤ l.length := by
  unfold lineOf
  exact (List.takeWhile_prefix _).length_le
theorem isU8_mem {l : List Int} (h : isU8 l = true) {x : Int} (hx : x ∈ l) : 0 ≤ x ∧ x < 256 := by
  have := List.all_eq_true.1 h x hx
  simpa using this
theorem isU8_drop {l : List Int} (h : isU8 l = true) (n : Nat) : isU8 (l.drop n) = true :=
  List.all_eq_true.2 fun x hx => List.all_eq_true.1 h x (List.mem_of_mem_drop hx)
theorem isU8_take {l : List Int} (h : isU8 l = true) (n : Nat) : isU8 (l.take n) = true :=
  List.all_eq_true.2 fun x hx => List.all_eq_true.1 h x (List.mem_of_mem_take hx)
theorem u8_eq {x : Int} (h : 0 ≤ x ∧ x < 256) : (UInt8.ofNat x.toNat == (10 : Int).toNat.toUInt8) = (x == 10) := by
  have : (UInt8.ofNat x.toNat = UInt8.ofNat 10) ↔ x = 10 := by
    constructor
    · intro e
      have := congrArg UInt8.toNat e
      simp at this
      omega
    · rintro rfl
      rfl
  rw [Bool.eq_iff_iff, beq_iff_eq, beq_iff_eq]
  exact this
/-- Where the line ends. -/
theorem idx_line (l : List Int) (h : isU8 l = true) :
    (Lib.indexByte (Lib.bytesOf l) (10 : Int).toNat.toUInt8 = -1 ∧ lineOf l = l) ∨ (Lib.indexByte (Lib.bytesOf l) (10 : Int).toNat.toUInt8 = ((lineOf l).length : Int) ∧ (lineOf l).length < l.length) := by
  induction l with
  | nil => exact .inl ⟨rfl, rfl⟩
  | cons x l ih =>
    have hx := isU8_mem h List.mem_cons_self
    have hl : isU8 l = true := List.all_eq_true.2 fun y hy => List.all_eq_true.1 h y (List.mem_cons_of_mem _ hy)
    have hb : Lib.bytesOf (x :: l) = UInt8.ofNat x.toNat :: Lib.bytesOf l := rfl
    rw [hb]
    unfold Lib.indexByte
    rw [u8_eq hx]
    by_cases c : x = 10
    · subst c
      refine .inr ⟨?_, ?_⟩
      · simp [lineOf]
      · simp [lineOf]
    · have e : lineOf (x :: l) = x :: lineOf l := by
        unfold lineOf
        rw [List.takeWhile_cons, if_pos (by simp [c])]
      rw [if_neg (by simp [c]), e]
      rcases ih hl with ⟨h1, h2⟩ | ⟨h1, h2⟩
      · refine .inl ⟨by rw [h1]; rfl, by rw [h2]⟩
      · refine .inr ⟨?_, by simpa using h2⟩
        rw [h1]
        have : (((lineOf l).length : Int) == -1) = false := beq_eq_false_iff_ne.2 (by omega)
        rw [this]
        simp
theorem lineOf_take (l : List Int) : lineOf l = l.take (lineOf l).length := by
  have h : lineOf l <+: l := List.takeWhile_prefix _
  exact List.prefix_iff_eq_take.1 h
/-- Pieces: where a separator stands. -/
theorem pieces_ne (sep : UInt8) : ∀ l, pieces sep l ≠ []
  | [] => by simp [pieces]
  | c :: l => by
    unfold pieces
    split
    · simp
    · split <;> simp
theorem pieces_cons (sep c : UInt8) (l : List UInt8) : pieces sep (c :: l) = if c == sep then [] :: pieces sep l else match pieces sep l with
    | [] => [[c]]
    | p :: ps => (c :: p) :: ps := rfl
theorem pieces_idx (sep : UInt8) : ∀ l : List UInt8,
    (Lib.indexByte l sep = -1 ∧ pieces sep l = [l]) ∨ ∃ i : Nat, Lib.indexByte l sep = (i : Int) ∧ i < l.length ∧ pieces sep l = l.take i :: pieces sep (l.drop (i + 1))
  | [] => .inl ⟨rfl, rfl⟩
  | c :: l => by
    rw [pieces_cons]
    unfold Lib.indexByte
    by_cases e : (c == sep) = true
    · rw [if_pos e, if_pos e]
      exact .inr ⟨0, rfl, by simp, by simp⟩
    · rw [if_neg e, if_neg e]
      rcases pieces_idx sep l with ⟨h1, h2⟩ | ⟨i, h1, h2, h3⟩
      · rw [h1, h2]
        exact .inl ⟨rfl, rfl⟩
      · refine .inr ⟨i + 1, ?_, by simpa using h2, ?_⟩
        · rw [h1]
          have : ((i : Int) == -1) = false := beq_eq_false_iff_ne.2 (by omega)
          rw [this]
          simp
        · rw [h3]
          simp
/-- token.wrong comes to wrongS. -/
theorem wrong_aux (l0 : List Int) (hl : l0.length < 4611686018427387904) : ∀ (k i : Nat) (word : Bool), i ≤ l0.length → l0.length < i + k →
    token_wrong.l0 k l0 word l0 (l0.length : Int) (i : Int) = some (wrongS word i (l0.drop i))
  | 0, i, word, hi, hk => by omega
  | k + 1, i, word, hi, hk => by
    unfold token_wrong.l0
    by_cases c : i < l0.length
    · rw [if_pos (by omega), if_pos (by omega), if_pos (by omega)]
      have ed : l0.drop i = l0[i] :: l0.drop (i + 1) := List.drop_eq_getElem_cons c
      have er : rd l0 (i : Int) = l0[i] := by simp [rd, List.getD, c]
      have ew : wrap64 ((i : Int) + 1) = ((i + 1 : Nat) : Int) := by unfold wrap64; omega
      rw [ed, er, ew]
      have ep : token_plain.f l0[i] = some (plainC l0[i]) := by
        unfold token_plain.f plainC
        split
        · rename_i h1
          rw [decide_eq_true (show (33 : Int) ≤ l0[i] from h1), Bool.true_and]
        · rename_i h1
          rw [decide_eq_false (show ¬ (33 : Int) ≤ l0[i] from h1), Bool.false_and]
      rw [ep]
      simp only [Option.bind_some]
      unfold wrongS
      by_cases p : plainC l0[i] = true
      · rw [if_pos p, if_pos p]
        have e32 : (l0[i] != 32) = true := by
          unfold plainC at p
          simp at p ⊢
          omega
        rw [e32]
        exact wrong_aux l0 hl k (i + 1) true (by omega) (by omega)
      · rw [if_neg p, if_neg p]
        by_cases q : l0[i] = 32
        · rw [if_pos q]
          by_cases r : word = true
          · rw [if_pos r, if_pos ⟨q, r⟩]
            have e32 : (l0[i] != 32) = false := by simp [q]
            rw [e32]
            exact wrong_aux l0 hl k (i + 1) false (by omega) (by omega)
          · rw [if_neg r, if_neg (fun h => r h.2)]
        · rw [if_neg q, if_neg (fun h => q h.1)]
    · have : i = l0.length := by omega
      subst this
      rw [if_neg (by omega), List.drop_length]
      unfold wrongS
      split <;> rfl
theorem wrong_f (l : List Int) (hl : l.length < 4611686018427387904) : token_wrong.f (l.length + 1) l = some (wrongS false 0 l) :=
  wrong_aux l hl (l.length + 1) 0 false (by omega) (by omega)
theorem wrongS_range : ∀ (l : List Int) (word : Bool) (i : Nat), wrongS word i l = -1 ∨ ((i : Int) ≤ wrongS word i l ∧ wrongS word i l ≤ (i : Int) + l.length)
  | [], word, i => by
    unfold wrongS
    split
    · exact .inl rfl
    · exact .inr ⟨by omega, by simp⟩
  | c :: l, word, i => by
    unfold wrongS
    have h1 := wrongS_range l true (i + 1)
    have h2 := wrongS_range l false (i + 1)
    simp only [Int.natCast_add, Int.natCast_one, List.length_cons] at h1 h2 ⊢
    split
    · omega
    · split <;> omega
end Go.Proofs.YthhdjbpmkfnhjaaDoor.P
