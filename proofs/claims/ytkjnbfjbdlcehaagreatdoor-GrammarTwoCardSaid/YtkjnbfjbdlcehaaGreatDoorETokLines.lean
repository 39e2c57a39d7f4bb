/- token: what the lines and words of a text are, in plain words. -/
import Derived.Test.YtkjnbfjbdlcehaaGreatDoorPx2
import Derived.Lib.Bytealg
import Derived.Lib.Bytes
import Derived.Test.YtkjnbfjbdlcehaaGreatDoorRF2
import Derived.WalkMore
import Derived.Laws.Externs
import Derived.Laws.BytesArg
import Derived.Deep.QuietTactic
import Derived.BigQuiet
import Derived.Shelf.Bytes.SlIndexAt
import Derived.Lib.IndexBytes
import Derived.Lib.Strings
import Derived.Test.YtkjnbfjbdlcehaaGreatDoorKW
import Derived.Maps.OwnIn
import Derived.IntWalk
namespace Go.Proofs.YtkjnbfjbdlcehaaGreatDoor.P
open Go.RowKit Go.Proofs.YtkjnbfjbdlcehaaGreatDoorW.PrintWords Go.Proofs.YtkjnbfjbdlcehaaGreatDoorW.PrintLast
set_option linter.unusedVariables false
set_option linter.unusedSimpArgs false

/-- The line at the head of some bytes. -/
def lineOf (l : List Int) : List Int := l.takeWhile (· != 10)
/-- All lines, each with where it begins (f: at most so many). -/
def cutF : Nat → Nat → List Int → List (Nat × List Int)
  | 0, _, _ => []
  | f + 1, p, l => if l.isEmpty then [] else (p, lineOf l) :: cutF f (p + (lineOf l).length + 1) (l.drop ((lineOf l).length + 1))
def isU8 (l : List Int) : Bool := l.all fun x => decide (0 ≤ x) && decide (x < 256)
def plainC (c : Int) : Bool := decide (33 ≤ c) && decide (c ≤ 126)
/-- The first byte of a line that may not stand there; -1: there is none. -/
def wrongS : Bool → Int → List Int → Int
  | word, i, [] => if word = true then -1 else i
  | word, i, c :: l => if plainC c = true then wrongS true (i + 1) l else if c = 32 ∧ word = true then wrongS false (i + 1) l else i
/-- What stands between separators. -/
def pieces (sep : UInt8) : List UInt8 → List (List UInt8)
  | [] => [[]]
  | c :: l => if c == sep then [] :: pieces sep l else match pieces sep l with
    | [] => [[c]]
    | p :: ps => (c :: p) :: ps
def piecesB (s : ByteArray) : List ByteArray := (pieces 32 s.data.toList).map fun l => ⟨l.toArray⟩
def wordsAt : Int → List ByteArray → List S128
  | _, [] => []
  | p, w :: ws => ⟨w, p⟩ :: wordsAt (p + (w.size : Int) + 1) ws
inductive Verdict
  | skip
  | bad (e p : Int)
  | line (x : S84)
def verdict (x : Nat × List Int) : Verdict :=
  if 65536 < x.2.length then .bad 4 x.1
  else if x.2.isEmpty ∨ x.2.headD 0 = 35 then .skip
  else if 0 ≤ wrongS false 0 x.2 then .bad 5 (x.1 + wrongS false 0 x.2) else .line ⟨x.1, wordsAt x.1 (piecesB (strOfNums x.2))⟩
def linesOf : List (Nat × List Int) → List S84 × Int × Int
  | [] => ([], 0, 0)
  | x :: xs => match verdict x with
    | .skip => linesOf xs
    | .bad e p => ([], e, p)
    | .line s => if (linesOf xs).2.1 = 0 then (s :: (linesOf xs).1, (linesOf xs).2) else ([], (linesOf xs).2)
def token_Lines.f (l : List Int) : Option (List S84 × Int × Int) :=
  if isU8 l = true then some (if 67108864 < l.length then ([], 4, 67108864) else linesOf (cutF (l.length + 1) 0 l)) else none

theorem lineOf_le (l : List Int) : (lineOf l).length ≤ l.length := by
  unfold lineOf
  exact (List.takeWhile_prefix _).length_le
theorem isU8_mem {l : List Int} (h : isU8 l = true) {x : Int} (hx : x ∈ l) : 0 ≤ x ∧ x < 256 := by
  have := List.all_eq_true.1 h x hx
  simpa using this
theorem isU8_drop {l : List Int} (h : isU8 l = true) (n : Nat) : isU8 (l.drop n) = true :=
  List.all_eq_true.2 fun x hx => List.all_eq_true.1 h x (List.mem_of_mem_drop hx)
theorem isU8_take {l : List Int} (h : isU8 l = true) (n : Nat) : isU8 (l.take n) = true :=
  List.all_eq_true.2 fun x hx => List.all_eq_true.1 h x (List.mem_of_mem_take hx)
theorem u8_eq {x : Int} (h : 0 ≤ x ∧ x < 256) : (UInt8.ofNat x.toNat == (10 : Int).toNat.toUInt8) = (x == 10) := by
  have : (UInt8.ofNat x.toNat = UInt8.ofNat 10) ↔ x = 10 := by
    constructor
    · intro e
      have := congrArg UInt8.toNat e
      simp at this
      omega
    · rintro rfl
      rfl
  rw [Bool.eq_iff_iff, beq_iff_eq, beq_iff_eq]
  exact this
/-- Where the line ends. -/
theorem idx_line (l : List Int) (h : isU8 l = true) :
    (Lib.indexByte (Lib.bytesOf l) (10 : Int).toNat.toUInt8 = -1 ∧ lineOf l = l) ∨ (Lib.indexByte (Lib.bytesOf l) (10 : Int).toNat.toUInt8 = ((lineOf l).length : Int) ∧ (lineOf l).length < l.length) := by
  induction l with
  | nil => exact .inl ⟨rfl, rfl⟩
  | cons x l ih =>
    have hx := isU8_mem h List.mem_cons_self
    have hl : isU8 l = true := List.all_eq_true.2 fun y hy => List.all_eq_true.1 h y (List.mem_cons_of_mem _ hy)
    have hb : Lib.bytesOf (x :: l) = UInt8.ofNat x.toNat :: Lib.bytesOf l := rfl
    rw [hb]
    unfold Lib.indexByte
    rw [u8_eq hx]
    by_cases c : x = 10
    · subst c
      refine .inr ⟨?_, ?_⟩
      · simp [lineOf]
      · simp [lineOf]
    · have e : lineOf (x :: l) = x :: lineOf l := by
        unfold lineOf
        rw [List.takeWhile_cons, if_pos (by simp [c])]
      rw [if_neg (by simp [c]), e]
      rcases ih hl with ⟨h1, h2⟩ | ⟨h1, h2⟩
      · refine .inl ⟨by rw [h1]; rfl, by rw [h2]⟩
      · refine .inr ⟨?_, by simpa using h2⟩
        rw [h1]
        have : (((lineOf l).length : Int) == -1) = false := beq_eq_false_iff_ne.2 (by omega)
        rw [this]
        simp
theorem lineOf_take (l : List Int) : lineOf l = l.take (lineOf l).length := by
  have h : lineOf l <+: l := List.takeWhile_prefix _
  exact List.prefix_iff_eq_take.1 h
/-- Pieces: where a separator stands. -/
theorem pieces_ne (sep : UInt8) : ∀ l, pieces sep l ≠ []
  | [] => by simp [pieces]
  | c :: l => by
    unfold pieces
    split
    · simp
    · split <;> simp
theorem pieces_cons (sep c : UInt8) (l : List UInt8) : pieces sep (c :: l) = if c == sep then [] :: pieces sep l else match pieces sep l with
    | [] => [[c]]
    | p :: ps => (c :: p) :: ps := rfl
theorem pieces_idx (sep : UInt8) : ∀ l : List UInt8,
    (Lib.indexByte l sep = -1 ∧ pieces sep l = [l]) ∨ ∃ i : Nat, Lib.indexByte l sep = (i : Int) ∧ i < l.length ∧ pieces sep l = l.take i :: pieces sep (l.drop (i + 1))
  | [] => .inl ⟨rfl, rfl⟩
  | c :: l => by
    rw [pieces_cons]
    unfold Lib.indexByte
    by_cases e : (c == sep) = true
    · rw [if_pos e, if_pos e]
      exact .inr ⟨0, rfl, by simp, by simp⟩
    · rw [if_neg e, if_neg e]
      rcases pieces_idx sep l with ⟨h1, h2⟩ | ⟨i, h1, h2, h3⟩
      · rw [h1, h2]
        exact .inl ⟨rfl, rfl⟩
      · refine .inr ⟨i + 1, ?_, by simpa using h2, ?_⟩
        · rw [h1]
          have : ((i : Int) == -1) = false := beq_eq_false_iff_ne.2 (by omega)
          rw [this]
          simp
        · rw [h3]
          simp
/-- token.wrong comes to wrongS. -/
theorem wrong_aux (l0 : List Int) (hl : l0.length < 4611686018427387904) : ∀ (k i : Nat) (word : Bool), i ≤ l0.length → l0.length < i + k →
    token_wrong.l0 k l0 word l0 (l0.length : Int) (i : Int) = some (wrongS word i (l0.drop i))
  | 0, i, word, hi, hk => by omega
  | k + 1, i, word, hi, hk => by
    unfold token_wrong.l0
    by_cases c : i < l0.length
    · rw [if_pos (by omega), if_pos (by omega), if_pos (by omega)]
      have ed : l0.drop i = l0[i] :: l0.drop (i + 1) := List.drop_eq_getElem_cons c
      have er : rd l0 (i : Int) = l0[i] := by simp [rd, List.getD, c]
      have ew : wrap64 ((i : Int) + 1) = ((i + 1 : Nat) : Int) := by unfold wrap64; omega
      rw [ed, er, ew]
      have ep : token_plain.f l0[i] = some (plainC l0[i]) := by
        unfold token_plain.f plainC
        split
        · rename_i h1
          rw [decide_eq_true (show (33 : Int) ≤ l0[i] from h1), Bool.true_and]
        · rename_i h1
          rw [decide_eq_false (show ¬ (33 : Int) ≤ l0[i] from h1), Bool.false_and]
      rw [ep]
      simp only [Option.bind_some]
      unfold wrongS
      by_cases p : plainC l0[i] = true
      · rw [if_pos p, if_pos p]
        have e32 : (l0[i] != 32) = true := by
          unfold plainC at p
          simp at p ⊢
          omega
        rw [e32]
        exact wrong_aux l0 hl k (i + 1) true (by omega) (by omega)
      · rw [if_neg p, if_neg p]
        by_cases q : l0[i] = 32
        · rw [if_pos q]
          by_cases r : word = true
          · rw [if_pos r, if_pos ⟨q, r⟩]
            have e32 : (l0[i] != 32) = false := by simp [q]
            rw [e32]
            exact wrong_aux l0 hl k (i + 1) false (by omega) (by omega)
          · rw [if_neg r, if_neg (fun h => r h.2)]
        · rw [if_neg q, if_neg (fun h => q h.1)]
    · have : i = l0.length := by omega
      subst this
      rw [if_neg (by omega), List.drop_length]
      unfold wrongS
      split <;> rfl
theorem wrong_f (l : List Int) (hl : l.length < 4611686018427387904) : token_wrong.f (l.length + 1) l = some (wrongS false 0 l) :=
  wrong_aux l hl (l.length + 1) 0 false (by omega) (by omega)
theorem wrongS_range : ∀ (l : List Int) (word : Bool) (i : Nat), wrongS word i l = -1 ∨ ((i : Int) ≤ wrongS word i l ∧ wrongS word i l ≤ (i : Int) + l.length)
  | [], word, i => by
    unfold wrongS
    split
    · exact .inl rfl
    · exact .inr ⟨by omega, by simp⟩
  | c :: l, word, i => by
    unfold wrongS
    have h1 := wrongS_range l true (i + 1)
    have h2 := wrongS_range l false (i + 1)
    simp only [Int.natCast_add, Int.natCast_one, List.length_cons] at h1 h2 ⊢
    split
    · omega
    · split <;> omega
end Go.Proofs.YtkjnbfjbdlcehaaGreatDoor.P

/- token: where a byte stands in a row of bytes, in a string; bytes.Cut at one byte. -/
namespace Go.Proofs.YtkjnbfjbdlcehaaGreatDoor.P
open Go.RowKit Go.Proofs.YtkjnbfjbdlcehaaGreatDoorW.PrintWords
set_option linter.unusedVariables false
set_option linter.unusedSimpArgs false

set_option maxHeartbeats 1000000 in
set_option maxRecDepth 100000 in
theorem bIndexByte (a : Addr) (n c : Nat) (xs : List Int) (cv : Int) (w : World) (hx : xs.length = n) (hc : ∀ i, i < n → w.cell? (a.add i) = some (.int .u8 (xs.getD i 0))) :
    Calls Tryz.prog 138 #[.slice (some a) n c, .int .u8 cv] w fun e w' => e = .returned (.int .i64 (Lib.indexByte (Lib.bytesOf xs) cv.toNat.toUInt8)) ∧ w' = w := by
  go_enter Tryz.func138, Tryz.ntmps138
  go_wp2
  rw [run_callFunc_extern Tryz.func155 (by kernel_rfl) (by kernel_rfl) (by kernel_rfl) (e := Extern.BytealgIndexByte.indexByte) (by kernel_rfl), Lib.run_indexByteAt w a n c xs hx hc cv]
  simp only [Result.andThen]
  rw [Oper.upon_value]
  go_wp2
  go_ret
  exact ⟨rfl, rfl⟩
set_option maxHeartbeats 1000000 in
set_option maxRecDepth 100000 in
theorem bIndex1 (a : Addr) (n c b2 o2 d : Nat) (xs : List Int) (cv : Int) (w : World) (hx : xs.length = n) (hc : ∀ i, i < n → w.cell? (a.add i) = some (.int .u8 (xs.getD i 0))) (hc2 : w.cell? ⟨b2, o2, none⟩ = some (.int .u8 cv)) :
    Calls Tryz.prog 117 #[.slice (some a) n c, .slice (some ⟨b2, o2, none⟩) 1 d] w fun e w' => e = .returned (.int .i64 (Lib.indexByte (Lib.bytesOf xs) cv.toNat.toUInt8)) ∧ w' = w := by
  have hcon := Aside0.mk (bIndexByte a n c xs cv w hx hc)
  clear hc
  go_enter Tryz.func117, Tryz.ntmps117
  go_wp2_with fail
  refine hcon.out.mono ?_
  rintro e w' ⟨rfl, rfl⟩
  go_wp2
  go_ret
  exact ⟨rfl, rfl⟩
set_option maxHeartbeats 1000000 in
set_option maxRecDepth 100000 in
theorem slIndexByte (s : ByteArray) (c : Int) (w : World) :
    Calls Tryz.prog 157 #[.string s, .int .u8 c] w fun e w' => e = .returned (.int .i64 (Lib.indexByte s.data.toList c.toNat.toUInt8)) ∧ w' = w := by
  go_enter Tryz.func157, Tryz.ntmps157
  go_wp2
  rw [run_callFunc_extern Tryz.func164 (by kernel_rfl) (by kernel_rfl) (by kernel_rfl) (e := Extern.BytealgIndexByte.indexByte) (by kernel_rfl), Lib.run_indexByteString s c w]
  simp only [Result.andThen]
  rw [Oper.upon_value]
  go_wp2
  go_ret
  exact ⟨rfl, rfl⟩
set_option maxHeartbeats 1000000 in
set_option maxRecDepth 100000 in
theorem slIndex1 (s : ByteArray) (w : World) :
    Calls Tryz.prog 144 #[.string s, .string ⟨#[32]⟩] w fun e w' => e = .returned (.int .i64 (Lib.indexByte s.data.toList 32)) ∧ w' = w := by
  have hcon := Aside0.mk (slIndexByte s (((⟨#[32]⟩ : ByteArray)[0]'(by decide)).toNat : Int) w)
  have e32 : (((((⟨#[32]⟩ : ByteArray)[0]'(by decide)).toNat : Int)).toNat.toUInt8) = 32 := by decide
  rw [e32] at hcon
  clear e32
  by_cases c : s = ⟨#[32]⟩
  · subst c
    go_enter Tryz.func144, Tryz.ntmps144
    go_wp2
    go_ret
    exact ⟨rfl, rfl⟩
  · have c1 : ¬ [32] = s.toList := by
      intro e
      apply c
      rw [ByteArray.toList_eq] at e
      cases s with
      | mk d => exact congrArg ByteArray.mk (Array.toList_inj.1 e.symm)
    have c2 : ([32] == s.toList) = false := beq_eq_false_iff_ne.2 c1
    go_enter Tryz.func144, Tryz.ntmps144
    go_wp2_with fail
    refine hcon.out.mono ?_
    rintro e w' ⟨rfl, rfl⟩
    go_wp2
    go_ret
    exact ⟨rfl, rfl⟩
set_option maxHeartbeats 1000000 in
set_option maxRecDepth 100000 in
theorem sIndex1 (s : ByteArray) (w : World) :
    Calls Tryz.prog 120 #[.string s, .string ⟨#[32]⟩] w fun e w' => e = .returned (.int .i64 (Lib.indexByte s.data.toList 32)) ∧ w' = w := by
  go_enter Tryz.func120, Tryz.ntmps120
  go_wp2_with fail
  refine (slIndex1 s w).mono ?_
  rintro e w' ⟨rfl, rfl⟩
  go_wp2
  go_ret
  exact ⟨rfl, rfl⟩
/-- What Cut tells of a row of n bytes whose line has i bytes. -/
def cutRow (g o n c : Nat) (xs : List Int) : Value := .slice (some ⟨g, o, none⟩) (lineOf xs).length c
set_option maxHeartbeats 2000000 in
set_option maxRecDepth 100000 in
theorem bCut1 (g o c b2 : Nat) (xs : List Int) (hu : isU8 xs = true) (hb : xs.length < 4611686018427387904) (hcap : xs.length ≤ c) (w : World) (hc : ∀ i, i < xs.length → w.cell? ⟨g, o + i, none⟩ = some (.int .u8 (xs.getD i 0))) (hc2 : w.cell? ⟨b2, 0, none⟩ = some (.int .u8 10)) :
    Calls Tryz.prog 103 #[.slice (some ⟨g, o, none⟩) xs.length c, .slice (some ⟨b2, 0, none⟩) 1 1] w fun e w' => (∃ v u, e = .returned (.tuple #[.slice (some ⟨g, o, none⟩) (lineOf xs).length c, v, u])) ∧ Below w.heap.size w w' := by
  have hcon := Aside0.mk (bIndex1 ⟨g, o, none⟩ xs.length c b2 0 1 xs 10 w rfl (fun i hi => by
    have e' : (⟨g, o, none⟩ : Addr).add i = ⟨g, o + i, none⟩ := by
      unfold Addr.add
      split <;> simp_all
    rw [e']
    exact hc i hi) hc2)
  clear hc hc2
  rcases idx_line xs hu with ⟨h1, h2⟩ | ⟨h1, h2⟩
  · rw [h1] at hcon
    rw [h2]
    go_enter Tryz.func103, Tryz.ntmps103
    go_wp2_with fail
    refine hcon.out.mono ?_
    rintro e w' ⟨rfl, rfl⟩
    go_wp2
    refine bodyPost_ret (results_tmp3 rfl _ _ _) rfl ?_
    exact ⟨⟨_, _, rfl⟩, Below.refl _ _⟩
  · rw [h1] at hcon
    generalize lineOf xs = L at hcon h2 ⊢
    have q0 : (0 : Int) ≤ (L.length : Int) := by omega
    have q1 : decide ((0 : Int) ≤ (L.length : Int)) = true := decide_eq_true q0
    have q2 : L.length ≤ xs.length := by omega
    have q3 : L.length + 1 ≤ xs.length := by omega
    have q4 : L.length ≤ c := by omega
    have q5 : L.length + 1 ≤ c := by omega
    go_enter Tryz.func103, Tryz.ntmps103
    go_wp2_with fail
    refine hcon.out.mono ?_
    rintro e w' ⟨rfl, rfl⟩
    go_wp2
    go_quiet (fail)
    all_goals go_wp2
    all_goals refine bodyPost_ret (results_tmp3 rfl _ _ _) rfl ?_
    all_goals exact ⟨⟨_, _, rfl⟩, pw_below_drewN (Below.refl _ _) _⟩
end Go.Proofs.YtkjnbfjbdlcehaaGreatDoor.P

/- token.cut: the iterator over a text's lines. -/
namespace Go.Proofs.YtkjnbfjbdlcehaaGreatDoor.P
open Go.RowKit Go.Proofs.YtkjnbfjbdlcehaaGreatDoorW.PrintWords
set_option linter.unusedVariables false
set_option linter.unusedSimpArgs false
attribute [local go_sem] Oper.semAt_some

theorem cutF_nil (f p : Nat) : cutF f p [] = [] := by
  cases f <;> rfl
theorem cutF_cons (f p : Nat) (l : List Int) (h : l ≠ []) : cutF (f + 1) p l = (p, lineOf l) :: cutF f (p + (lineOf l).length + 1) (l.drop ((lineOf l).length + 1)) := by
  show (if l.isEmpty = true then [] else _) = _
  rw [if_neg (by simpa using h)]
/-- The two blocks that the iterator reads are kept. -/
def Two (B1 B2 : Nat) (A B : World) : Prop := B.heap[B1]? = A.heap[B1]? ∧ B.heap[B2]? = A.heap[B2]?
theorem Two.trans {B1 B2 : Nat} {A B C : World} (h : Two B1 B2 A B) (k : Two B1 B2 B C) : Two B1 B2 A C := ⟨k.1.trans h.1, k.2.trans h.2⟩
theorem Two.below {B1 B2 : Nat} {A B C : World} (h : Two B1 B2 A B) (l1 : B1 < A.heap.size) (l2 : B2 < A.heap.size) (hb : Below B.heap.size B C) : Two B1 B2 A C :=
  ⟨(hb.block B1 (by have := h.1.trans (Array.getElem?_eq_getElem l1); exact (Array.getElem?_eq_some_iff.1 this).1)).trans h.1, (hb.block B2 (by have := h.2.trans (Array.getElem?_eq_getElem l2); exact (Array.getElem?_eq_some_iff.1 this).1)).trans h.2⟩
/-- What a line's value is. -/
def lineV (g o cap : Nat) (x : Nat × List Int) : Array Value := #[.int .i64 (x.1 : Int), .slice (some ⟨g, o + x.1, none⟩) x.2.length (cap - x.1)]
set_option maxRecDepth 100000 in
set_option maxHeartbeats 2000000 in
theorem cut1_in (l Bb g o cap : Nat) (bs : List Int) (hu : isU8 bs = true) (hlen : bs.length ≤ 67108864) (hcap : bs.length ≤ cap) (J Jx : List (Nat × List Int) → World → Prop)
    (hJ : ∀ s A B, J s A → Below A.heap.size A B → J s B)
    (hY : ∀ pre x W1, J pre W1 → (pre ++ [x]) <+: cutF (bs.length + 1) 0 bs → YieldAt Fence.wide 0 Tryz.prog l (lineV g o cap x) W1 fun e W' =>
      (e = .returned (.bool true) ∧ J (pre ++ [x]) W' ∧ Two Bb g W1 W') ∨ (e = .returned (.bool false) ∧ Jx (pre ++ [x]) W'))
    (W : World) (hc : W.cell? ⟨Bb, 0, none⟩ = some (.slice (some ⟨g, o, none⟩) bs.length cap)) (hcs : ∀ i, i < bs.length → W.cell? ⟨g, o + i, none⟩ = some (.int .u8 (bs.getD i 0))) (hg : g < W.heap.size) (h0 : J [] W) :
    CallsIn Fence.wide 0 Tryz.prog 102 #[.func (.yield l) #[] #[], .pointer (some ⟨Bb, 0, none⟩)] W (IterEnds (fun xs => xs = cutF (bs.length + 1) 0 bs) (fun pre => pre <+: cutF (bs.length + 1) 0 bs) J Jx) := by
  have hBb : Bb < W.heap.size := World.block_lt_of_cell? W _ hc
  have HJ := Aside0.mk hJ
  have HY := Aside0.mk hY
  have HU := Aside0.mk hu
  have HCS := Aside0.mk hcs
  have HC := Aside0.mk hc
  clear hJ hY hu hcs hc
  refine callsIn_of_wp Tryz.func102 rfl trivial ?_ rfl
  simp only [Tryz.ntmps102, List.size_toArray, List.length_cons, List.length_nil, Nat.reduceAdd, Nat.reduceSub, Array.replicate_succ, Array.replicate_zero, List.push_toArray, List.append_toArray, List.nil_append, List.cons_append]
  gi_wp2
  gi_loopw [3] (fun v3 wr => ∃ (pre : List (Nat × List Int)) (k f : Nat), v3 = .int .i64 k ∧ Aside0 (cutF (bs.length + 1) 0 bs = pre ++ cutF f k (bs.drop k)) ∧ Aside0 (bs.length + 1 ≤ k + f ∧ k ≤ bs.length + 1) ∧ Aside0 (J pre wr) ∧ Aside0 (Two Bb g W wr))
    (fun v3 _ => bs.length + 1 - (intOf v3).toNat)
  case atStart => exact ⟨[], 0, bs.length + 1, rfl, ⟨by simp⟩, ⟨by omega⟩, ⟨h0⟩, ⟨rfl, rfl⟩⟩
  case round =>
    obtain ⟨pre, k, f, rfl, hcut, hf, hj, hB⟩ := hrel
    have hcw : wr.cell? ⟨Bb, 0, none⟩ = some (.slice (some ⟨g, o, none⟩) bs.length cap) := (World.cell?_of_block (a := ⟨Bb, 0, none⟩) hB.out.1).trans HC.out
    by_cases c : k < bs.length
    · obtain ⟨f, rfl⟩ : ∃ m, f = m + 1 := ⟨f - 1, by have := hf.out; omega⟩
      have hne : bs.drop k ≠ [] := by
        intro e
        have := congrArg List.length e
        simp at this
        omega
      have e1 := cutF_cons f k (bs.drop k) hne
      obtain ⟨L, hL⟩ : ∃ L, Aside0 (lineOf (bs.drop k) = L) := ⟨_, ⟨rfl⟩⟩
      rw [hL.out, List.drop_drop] at e1
      have hpre : (pre ++ [(k, L)]) <+: cutF (bs.length + 1) 0 bs := by
        rw [hcut.out, e1]
        exact ⟨_, List.append_assoc _ _ _⟩
      have hLl : L.length ≤ bs.length - k := by
        have := lineOf_le (bs.drop k)
        rw [hL.out, List.length_drop] at this
        exact this
      have hcon := fun (W2 : World) (b2 : Nat) (h : Two Bb g W W2) (h2 : W2.cell? ⟨b2, 0, none⟩ = some (.int .u8 10)) => bCut1 g (o + k) (cap - k) b2 (bs.drop k) (isU8_drop HU.out k) (by simp; omega) (by simp; omega) W2 (fun i hi => by
        have hi' : i < bs.length - k := by simpa using hi
        have := (World.cell?_of_block (a := ⟨g, o + (k + i), none⟩) h.2).trans (HCS.out (k + i) (by omega))
        rw [show o + k + i = o + (k + i) by omega, this]
        simp [List.getD]) h2
      rw [hL.out, List.length_drop] at hcon
      have HCON := Aside0.mk hcon
      have HE := Aside0.mk e1
      have HP := Aside0.mk hpre
      clear hcon e1 hpre hne
      have p1 : (k : Int) < (bs.length : Int) := by omega
      have p2 : (0 : Int) ≤ (k : Int) := by omega
      have q1 := eq_true p1
      have q2 : decide ((k : Int) < (bs.length : Int)) = true := decide_eq_true p1
      have q3 : k ≤ bs.length := by omega
      have q4 : ¬ cap = k := by omega
      have q5 : k ≤ cap := by omega
      gi_wp2_with fail
      refine ⟨trivial, rfl, (callsIn_wide.2 (HCON.out _ wr.heap.size (hB.out.below hBb hg ((Below.refl _ wr).alloc (Nat.le_refl _) _)) (blk_cell (blk_new wr _) 0))).mono ?_⟩
      rintro e W2 ⟨⟨v, u, rfl⟩, hb2⟩
      have hb3 : Below wr.heap.size wr W2 := ((Below.refl _ wr).alloc (Nat.le_refl _) _).trans (hb2.mono (by simp))
      obtain ⟨fn, tmps, assign, body, hy, hR⟩ := HY.out pre (k, L) W2 (HJ.out _ _ _ hj.out hb3) HP.out
      have HB2 := Aside0.mk (hB.out.below hBb hg hb3)
      clear hb2 hb3 hcw HCON
      dsimp only [lineV] at hy
      gi_wp2
      refine ⟨rfl, hR.mono ?_⟩
      rintro e W3 (⟨rfl, hJ3, hk3⟩ | ⟨rfl, hJx3⟩)
      · have HJ3 := Aside0.mk hJ3
        have HB3 := Aside0.mk (HB2.out.trans hk3)
        clear hJ3 hk3
        gi_wp2
        go_roundw
        case rel => exact ⟨pre ++ [(k, L)], k + L.length + 1, f, by go_num, ⟨by rw [hcut.out, HE.out, List.append_assoc, ← Nat.add_assoc]; rfl⟩, ⟨by have := hf.out; omega⟩, HJ3, HB3⟩
        case measure => simp [intOf]; omega
      · gi_wp2
        refine bodyPost_ret (results_none rfl _ _ _) rfl ?_
        exact ⟨⟨_, rfl⟩, .inr ⟨pre ++ [(k, L)], HP.out, hJx3⟩⟩
    · have hd : bs.drop k = [] := List.drop_eq_nil_of_le (by omega)
      have p1 : decide ((k : Int) < (bs.length : Int)) = false := decide_eq_false (by omega)
      have h2 := hcut.out
      rw [hd, cutF_nil, List.append_nil] at h2
      have H2 := Aside0.mk h2
      clear hd h2
      gi_wp2
      go_end0
      exact ⟨⟨_, rfl⟩, .inl ⟨pre, H2.out.symm, hj.out⟩⟩
set_option maxRecDepth 100000 in
set_option maxHeartbeats 1000000 in
theorem cut1_nil (l Bb : Nat) (A : Option Addr) (cap : Nat) (J : List (Nat × List Int) → World → Prop) (W : World) (hc : W.cell? ⟨Bb, 0, none⟩ = some (.slice A 0 cap)) (h0 : J [] W) :
    CallsIn Fence.wide 0 Tryz.prog 102 #[.func (.yield l) #[] #[], .pointer (some ⟨Bb, 0, none⟩)] W fun e W' => (∃ v, e = .returned v) ∧ J [] W' := by
  have H0 := Aside0.mk h0
  clear h0
  refine callsIn_of_wp Tryz.func102 rfl trivial ?_ rfl
  simp only [Tryz.ntmps102, List.size_toArray, List.length_cons, List.length_nil, Nat.reduceAdd, Nat.reduceSub, Array.replicate_succ, Array.replicate_zero, List.push_toArray, List.append_toArray, List.nil_append, List.cons_append]
  gi_wp2
  gi_loopw [3] (fun i wr => i = .int .i64 0 ∧ Aside0 (wr.cell? ⟨Bb, 0, none⟩ = some (.slice A 0 cap)) ∧ Aside0 (J [] wr)) (fun _ _ => 0)
  case atStart => exact ⟨rfl, ⟨hc⟩, H0⟩
  case round =>
    obtain ⟨rfl, hc, hJs⟩ := hrel
    have hc := hc.out
    gi_wp2
    go_end0
    exact ⟨⟨_, rfl⟩, hJs.out⟩
set_option maxHeartbeats 1000000 in
theorem cut_in (A : Option Addr) (n c : Nat) (w : World) : CallsIn Fence.wide 0 Tryz.prog 73 #[.slice A n c] w fun e w' =>
    e = .returned (.func (.func 102) #[] #[.pointer (some ⟨w.heap.size, 0, none⟩)]) ∧ w' = w.alloc (.cells #[.slice A n c] 41) := by
  refine callsIn_of_wp Tryz.func73 rfl trivial ?_ rfl
  simp only [Tryz.ntmps73, List.size_toArray, List.length_cons, List.length_nil, Nat.reduceAdd, Nat.reduceSub, Array.replicate_succ, Array.replicate_zero, List.push_toArray, List.append_toArray, List.nil_append, List.cons_append]
  gi_wp2
  go_ret
  exact ⟨rfl, rfl⟩
/-- The iterator's contract: A's row holds bs, in a world w whose heap has the box. -/
theorem cut_seq (Bb g o cap : Nat) (bs : List Int) (hu : isU8 bs = true) (hlen : bs.length ≤ 67108864) (hcap : bs.length ≤ cap) (w : World) (hBb : Bb < w.heap.size) (hg : g < w.heap.size)
    (hc : w.cell? ⟨Bb, 0, none⟩ = some (.slice (some ⟨g, o, none⟩) bs.length cap)) (hcs : ∀ i, i < bs.length → w.cell? ⟨g, o + i, none⟩ = some (.int .u8 (bs.getD i 0))) :
    SeqT Tryz.prog 102 #[.pointer (some ⟨Bb, 0, none⟩)] (lineV g o cap) (Two Bb g) (fun A B => Below A.heap.size A B) (fun pre x => (pre ++ [x]) <+: cutF (bs.length + 1) 0 bs) (fun xs => xs = cutF (bs.length + 1) 0 bs) (fun pre => pre <+: cutF (bs.length + 1) 0 bs) w :=
  fun l J Jx W hW hJ _ hY h0 => cut1_in l Bb g o cap bs hu hlen hcap J Jx hJ hY W ((hW.cell (p := ⟨Bb, 0, none⟩) hBb).trans hc) (fun i hi => (hW.cell (p := ⟨g, o + i, none⟩) hg).trans (hcs i hi)) (Nat.lt_of_lt_of_le hg hW.size) h0
theorem cut_seq_nil (Bb g o cap0 : Nat) (A : Option Addr) (cap : Nat) (w : World) (hBb : Bb < w.heap.size) (hc : w.cell? ⟨Bb, 0, none⟩ = some (.slice A 0 cap)) :
    SeqT Tryz.prog 102 #[.pointer (some ⟨Bb, 0, none⟩)] (lineV g o cap0) (Two Bb g) (fun A B => Below A.heap.size A B) (fun pre x => (pre ++ [x]) <+: cutF 1 0 []) (fun xs => xs = cutF 1 0 []) (fun pre => pre <+: cutF 1 0 []) w :=
  fun l J Jx W hW hJ _ hY h0 => (cut1_nil l Bb A cap J W ((hW.cell (p := ⟨Bb, 0, none⟩) hBb).trans hc) h0).mono fun e W' ⟨he, hj⟩ => ⟨he, .inl ⟨[], rfl, hj⟩⟩
end Go.Proofs.YtkjnbfjbdlcehaaGreatDoor.P

/- strings.SplitSeq at one space: the iterator over what stands between spaces. -/
namespace Go.Proofs.YtkjnbfjbdlcehaaGreatDoor.P
open Go.RowKit Go.Proofs.YtkjnbfjbdlcehaaGreatDoorW.PrintWords
set_option linter.unusedVariables false
set_option linter.unusedSimpArgs false
attribute [local go_sem] Oper.semAt_some

theorem bytes_ext {a b : ByteArray} (h : a.data.toList = b.data.toList) : a = b := by
  cases a
  cases b
  exact congrArg ByteArray.mk (Array.toList_inj.1 h)
theorem ext_take (s : ByteArray) (i : Nat) : (s.extract 0 i).data.toList = s.data.toList.take i := by
  rw [Lib.extract_data]
  simp
theorem ext_drop (s : ByteArray) (i : Nat) : (s.extract i s.size).data.toList = s.data.toList.drop i := by
  exact Lib.extract_to_end s i
theorem piecesB_idx (s : ByteArray) : (Lib.indexByte s.data.toList 32 = -1 ∧ piecesB s = [s]) ∨ ∃ i : Nat, Lib.indexByte s.data.toList 32 = (i : Int) ∧ i < s.size ∧ piecesB s = s.extract 0 i :: piecesB (s.extract (i + 1) s.size) := by
  unfold piecesB
  rcases pieces_idx 32 s.data.toList with ⟨h1, h2⟩ | ⟨i, h1, h2, h3⟩
  · refine .inl ⟨h1, ?_⟩
    rw [h2]
    rfl
  · refine .inr ⟨i, h1, h2, ?_⟩
    rw [h3, List.map_cons, ext_drop]
    congr 1
    exact bytes_ext (by rw [ext_take])
/-- How much is still to come, read off the memory. -/
def strM (Bs : Nat) (wr : World) : Nat := match wr.cell? ⟨Bs, 0, none⟩ with
  | some (.string s) => s.size + 1
  | _ => 0
/-- The three boxes are kept. -/
def Boxes3 (B1 B2 B3 : Nat) (A B : World) : Prop := B.heap[B1]? = A.heap[B1]? ∧ B.heap[B2]? = A.heap[B2]? ∧ B.heap[B3]? = A.heap[B3]?
set_option maxRecDepth 100000 in
set_option maxHeartbeats 2000000 in
theorem spl1_in (l B1 B2 B3 : Nat) (h12 : B1 ≠ B2) (h32 : B3 ≠ B2) (s0 : ByteArray) (hs0 : s0.size < 4611686018427387904) (J Jx : List ByteArray → World → Prop) (hJ : ∀ s (A : World) v, J s A → J s (A.setCell ⟨B2, 0, none⟩ v))
    (hY : ∀ pre x W1, J pre W1 → (pre ++ [x]) <+: piecesB s0 → YieldAt Fence.wide 0 Tryz.prog l #[.string x] W1 fun e W' =>
      (e = .returned (.bool true) ∧ J (pre ++ [x]) W' ∧ Boxes3 B1 B2 B3 W1 W') ∨ (e = .returned (.bool false) ∧ Jx (pre ++ [x]) W'))
    (W : World) (hc1 : W.cell? ⟨B1, 0, none⟩ = some (.string ⟨#[32]⟩)) (hc2 : W.cell? ⟨B2, 0, none⟩ = some (.string s0)) (hz2 : W.frozen? ⟨B2, 0, none⟩ = false) (hc3 : W.cell? ⟨B3, 0, none⟩ = some (.int .i64 0)) (h0 : J [] W) :
    CallsIn Fence.wide 0 Tryz.prog 118 #[.func (.yield l) #[] #[], .pointer (some ⟨B1, 0, none⟩), .pointer (some ⟨B2, 0, none⟩), .pointer (some ⟨B3, 0, none⟩)] W (IterEnds (fun xs => xs = piecesB s0) (fun pre => pre <+: piecesB s0) J Jx) := by
  have HJ := Aside0.mk hJ
  have HY := Aside0.mk hY
  have H0 := Aside0.mk h0
  clear hJ hY h0
  refine callsIn_of_wp Tryz.func118 rfl trivial ?_ rfl
  simp only [Tryz.ntmps118, List.size_toArray, List.length_cons, List.length_nil, Nat.reduceAdd, Nat.reduceSub, Array.replicate_succ, Array.replicate_zero, List.push_toArray, List.append_toArray, List.nil_append, List.cons_append]
  gi_wp2
  gi_loopw [7] (fun _ wr => ∃ (pre : List ByteArray) (s : ByteArray), Aside0 (piecesB s0 = pre ++ piecesB s) ∧ Aside0 (s.size ≤ s0.size) ∧ Aside0 (J pre wr) ∧ wr.cell? ⟨B1, 0, none⟩ = some (.string ⟨#[32]⟩) ∧ wr.cell? ⟨B2, 0, none⟩ = some (.string s) ∧ wr.frozen? ⟨B2, 0, none⟩ = false ∧ wr.cell? ⟨B3, 0, none⟩ = some (.int .i64 0))
    (fun _ wr => strM B2 wr)
  case atStart => exact ⟨[], s0, ⟨rfl⟩, ⟨Nat.le_refl _⟩, H0, hc1, hc2, hz2, hc3⟩
  case round =>
    obtain ⟨pre, s, hp, hs, hj, k1, k2, kz, k3⟩ := hrel
    have hm : strM B2 wr = s.size + 1 := by
      unfold strM
      rw [k2]
    have HM := Aside0.mk hm
    clear hm
    have hszb : s.size < 4611686018427387904 := Nat.lt_of_le_of_lt hs.out hs0
    have hix := Aside0.mk (sIndex1 s wr)
    rcases piecesB_idx s with ⟨h1, h2⟩ | ⟨i, h1, hi, h2⟩
    · rw [h1] at hix
      have hpre : (pre ++ [s]) <+: piecesB s0 := by
        rw [hp.out, h2]
        exact List.prefix_refl _
      obtain ⟨fn, tmps, assign, body, hy, hR⟩ := HY.out pre s wr hj.out hpre
      have HP := Aside0.mk hpre
      have H2 := Aside0.mk h2
      clear h1 h2 hpre
      gi_wp2_with fail
      refine ⟨trivial, rfl, (callsIn_wide.2 hix.out).mono ?_⟩
      rintro e W2 ⟨rfl, rfl⟩
      gi_wp2
      refine ⟨rfl, hR.mono ?_⟩
      rintro e W3 (⟨rfl, hJ3, hk3⟩ | ⟨rfl, hJx3⟩)
      · have HJ3 := Aside0.mk hJ3
        clear hJ3 hk3
        gi_wp2
        go_end0
        exact ⟨⟨_, rfl⟩, .inl ⟨_, by rw [hp.out, H2.out], HJ3.out⟩⟩
      · have HJ3 := Aside0.mk hJx3
        clear hJx3
        gi_wp2
        go_end0
        exact ⟨⟨_, rfl⟩, .inr ⟨_, HP.out, HJ3.out⟩⟩
    · rw [h1] at hix
      have hpre : (pre ++ [s.extract 0 i]) <+: piecesB s0 := by
        rw [hp.out, h2]
        exact ⟨_, List.append_assoc _ _ _⟩
      obtain ⟨fn, tmps, assign, body, hy, hR⟩ := HY.out pre (s.extract 0 i) wr hj.out hpre
      have HP := Aside0.mk hpre
      have H2 := Aside0.mk h2
      clear h1 h2 hpre
      have q0 : ¬ ((i : Int) < 0) := by omega
      have q1 : decide ((i : Int) < 0) = false := decide_eq_false q0
      have q2 : i ≤ s.size := by omega
      have q3 : i + 1 ≤ s.size := by omega
      gi_wp2_with fail
      refine ⟨trivial, rfl, (callsIn_wide.2 hix.out).mono ?_⟩
      rintro e W2 ⟨rfl, rfl⟩
      gi_wp2
      refine ⟨rfl, hR.mono ?_⟩
      rintro e W3 (⟨rfl, hJ3, hk3⟩ | ⟨rfl, hJx3⟩)
      · have k1' : W3.cell? ⟨B1, 0, none⟩ = some (.string ⟨#[32]⟩) := (World.cell?_of_block (a := ⟨B1, 0, none⟩) hk3.1).trans k1
        have k2' : W3.cell? ⟨B2, 0, none⟩ = some (.string s) := (World.cell?_of_block (a := ⟨B2, 0, none⟩) hk3.2.1).trans k2
        have kz' : W3.frozen? ⟨B2, 0, none⟩ = false := (World.frozen?_of_block (a := ⟨B2, 0, none⟩) hk3.2.1).trans kz
        have k3' : W3.cell? ⟨B3, 0, none⟩ = some (.int .i64 0) := (World.cell?_of_block (a := ⟨B3, 0, none⟩) hk3.2.2).trans k3
        have HJ3 := Aside0.mk hJ3
        clear hJ3 hk3
        gi_wp2
        have hset : (W3.setCell ⟨B2, 0, none⟩ (.string (s.extract (i + 1) s.size))).cell? ⟨B2, 0, none⟩ = some (.string (s.extract (i + 1) s.size)) := World.cell?_setCell_same' _ _ _ (by rw [k2']; rfl)
        have hsz : (s.extract (i + 1) s.size).size = s.size - (i + 1) := by
          rw [ByteArray.size_extract]
          omega
        go_roundw
        case rel => exact ⟨pre ++ [s.extract 0 i], s.extract (i + 1) s.size, ⟨by rw [hp.out, H2.out, List.append_assoc]; rfl⟩, ⟨by have := hs.out; rw [hsz]; omega⟩, ⟨HJ.out _ _ _ HJ3.out⟩, (World.cell?_setCell_other W3 _ _ _ (fun e => h12 (congrArg Addr.block e).symm)).trans k1', hset, by rw [World.frozen?_setCell]; exact kz', (World.cell?_setCell_other W3 _ _ _ (fun e => h32 (congrArg Addr.block e).symm)).trans k3'⟩
        case measure =>
          rw [HM.out]
          unfold strM
          rw [hset]
          simp only [hsz]
          omega
      · have HJ3 := Aside0.mk hJx3
        clear hJx3
        gi_wp2
        refine bodyPost_ret (results_none rfl _ _ _) rfl ?_
        exact ⟨⟨_, rfl⟩, .inr ⟨_, HP.out, HJ3.out⟩⟩
set_option maxHeartbeats 1000000 in
theorem splitSeq_in (s : ByteArray) (w : World) : CallsIn Fence.wide 0 Tryz.prog 105 #[.string s, .string ⟨#[32]⟩, .int .i64 0] w fun e w' =>
    e = .returned (.func (.func 118) #[] #[.pointer (some ⟨w.heap.size + 1, 0, none⟩), .pointer (some ⟨w.heap.size, 0, none⟩), .pointer (some ⟨w.heap.size + 1 + 1, 0, none⟩)]) ∧ w' = ((w.alloc (.cells #[.string s] 9)).alloc (.cells #[.string ⟨#[32]⟩] 9)).alloc (.cells #[.int .i64 0] 3) := by
  refine callsIn_of_wp Tryz.func105 rfl trivial ?_ rfl
  simp only [Tryz.ntmps105, List.size_toArray, List.length_cons, List.length_nil, Nat.reduceAdd, Nat.reduceSub, Array.replicate_succ, Array.replicate_zero, List.push_toArray, List.append_toArray, List.nil_append, List.cons_append]
  gi_wp2
  go_ret
  exact ⟨rfl, rfl⟩
set_option maxHeartbeats 1000000 in
theorem SplitSeq_in (s : ByteArray) (w : World) : CallsIn Fence.wide 0 Tryz.prog 75 #[.string s, .string ⟨#[32]⟩] w fun e w' =>
    e = .returned (.func (.func 118) #[] #[.pointer (some ⟨w.heap.size + 1, 0, none⟩), .pointer (some ⟨w.heap.size, 0, none⟩), .pointer (some ⟨w.heap.size + 1 + 1, 0, none⟩)]) ∧ w' = ((w.alloc (.cells #[.string s] 9)).alloc (.cells #[.string ⟨#[32]⟩] 9)).alloc (.cells #[.int .i64 0] 3) := by
  refine callsIn_of_wp Tryz.func75 rfl trivial ?_ rfl
  simp only [Tryz.ntmps75, List.size_toArray, List.length_cons, List.length_nil, Nat.reduceAdd, Nat.reduceSub, Array.replicate_succ, Array.replicate_zero, List.push_toArray, List.append_toArray, List.nil_append, List.cons_append]
  gi_wp2_with fail
  refine ⟨trivial, rfl, (splitSeq_in s w).mono ?_⟩
  rintro e w2 ⟨rfl, rfl⟩
  gi_wp2
  go_ret
  exact ⟨rfl, rfl⟩
/-- The iterator's contract. -/
theorem spl_seq (B1 B2 B3 : Nat) (h12 : B1 ≠ B2) (h32 : B3 ≠ B2) (s0 : ByteArray) (hs0 : s0.size < 4611686018427387904) (w : World) (l1 : B1 < w.heap.size) (l2 : B2 < w.heap.size) (l3 : B3 < w.heap.size)
    (hc1 : w.cell? ⟨B1, 0, none⟩ = some (.string ⟨#[32]⟩)) (hc2 : w.cell? ⟨B2, 0, none⟩ = some (.string s0)) (hz2 : w.frozen? ⟨B2, 0, none⟩ = false) (hc3 : w.cell? ⟨B3, 0, none⟩ = some (.int .i64 0)) :
    SeqT Tryz.prog 118 #[.pointer (some ⟨B1, 0, none⟩), .pointer (some ⟨B2, 0, none⟩), .pointer (some ⟨B3, 0, none⟩)] (fun x : ByteArray => #[.string x]) (Boxes3 B1 B2 B3) (fun A B => ∃ v, B = A.setCell ⟨B2, 0, none⟩ v) (fun pre x => (pre ++ [x]) <+: piecesB s0) (fun xs => xs = piecesB s0) (fun pre => pre <+: piecesB s0) w :=
  fun l J Jx W hW hJ _ hY h0 => spl1_in l B1 B2 B3 h12 h32 s0 hs0 J Jx (fun s A v h => hJ s A _ h ⟨v, rfl⟩) hY W ((hW.cell (p := ⟨B1, 0, none⟩) l1).trans hc1) ((hW.cell (p := ⟨B2, 0, none⟩) l2).trans hc2) ((hW.frozen (p := ⟨B2, 0, none⟩) l2).trans hz2) ((hW.cell (p := ⟨B3, 0, none⟩) l3).trans hc3) h0
end Go.Proofs.YtkjnbfjbdlcehaaGreatDoor.P

/- Appends within a fence: rows of elements that may lead to rows. Over any program. -/
namespace Go.Proofs.YtkjnbfjbdlcehaaGreatDoor.P
open Go.RowKit Go.Proofs.YtkjnbfjbdlcehaaGreatDoorW.PrintWords Go.Proofs.YtkjnbfjbdlcehaaGreatDoorW.PrintLast Go.Proofs.YtkjnbfjbdlcehaaGreatDoorW.PrintMore
set_option linter.unusedVariables false
section
variable {F : Fence} {nF : Nat} {P : Program} {ops : Array Oper} {rest : List Oper} {o : Oper} {a : Act} {Q : Exit → Act → World → Prop} {α : Type}
theorem in_append_cells {w0 W : World} (base : Nat) (hgd : o.guard = none) (s x : Operand) (t e : TypeId) (z : Value) (size bytes : Nat)
    (ho : o.op = .call { callee := .builtin .append, args := #[s, x], argTypes := #[t, t] })
    (ht : P.underlying t = some (.slice e)) (hinfo : (P.info? e).map (fun i => (i.zero, i.size, i.bytes)) = some (some z, size, bytes)) (hz : z.cells.size = size) (hs0 : 0 < size) (hb0 : 0 < bytes)
    (v : Value) (n : Nat) (xs ys : List Value) (hs : a.eval s = v) (hx : a.eval x = .slice (some ⟨W.heap.size, 0, none⟩) 1 1) (hys : ys.length = size) (h1 : ∀ u ∈ ys, u.oneCell' = true)
    (HO : W.ownsRow base e size v n xs) (HB : Below base w0 W) (hbase : base ≤ W.heap.size) (hl : (n + 1) * bytes ≤ 140737488355328)
    (h : ∀ v1 w1, w1.ownsRow base e size v1 (n + 1) (xs ++ ys) → Below base w0 w1 → W.grownBy w1 v.ownBlock → (v1.ownBlock = v.ownBlock ∨ ∃ b, v1.ownBlock = some b ∧ W.heap.size ≤ b) → wpListIn F nF P ops Q rest (a.put o.dst v1) w1) :
    wpListIn F nF P ops Q (o :: rest) a (W.alloc (.cells ys.toArray e)) := by
  obtain ⟨i0, hi, hzz⟩ := Option.map_eq_some_iff.1 hinfo
  simp only [Prod.mk.injEq] at hzz
  obtain ⟨hz0, hz1, hz2⟩ := hzz
  have hlen : n + 1 ≤ 140737488355328 := Nat.le_trans (Nat.le_mul_of_pos_right _ hb0) hl
  refine wpListIn_append_own_at (W.alloc (.cells ys.toArray e)) hgd s x t ho base e i0 z size bytes ht hi hz0 hz1 hz2 hz hs0 v n xs hs (HO.alloc _) ⟨W.heap.size, 0, none⟩ 1 1 ys hx (by rw [hys]; simp)
    (by simpa using World.news_of_block (cs := ys.toArray) (t := e) (fr := (0, 0)) (heap_alloc_new W (.cells ys.toArray e))) h1 (by simp only [maxLen]; omega) hl (by simp; omega) ?_
  intro v1 w1 hown hg _ hat
  refine h v1 w1 hown ((HB.alloc hbase _).grown hg (by simp; omega) (own_base HO)) (World.grownBy.trans (World.grownBy_alloc W _ _) hg) ?_
  rcases hat with hat | hat
  · exact .inl hat
  · exact .inr ⟨_, hat, by simp⟩
theorem in_R_append (d : Kd α) {w0 W : World} (base : Nat) (hgd : o.guard = none) (s x : Operand) (t e : TypeId) (z : Value) (bytes : Nat)
    (ho : o.op = .call { callee := .builtin .append, args := #[s, x], argTypes := #[t, t] })
    (ht : P.underlying t = some (.slice e)) (hinfo : (P.info? e).map (fun i => (i.zero, i.size, i.bytes)) = some (some z, d.sz, bytes)) (hz : z.cells.size = d.sz) (hs0 : 0 < d.sz) (hb0 : 0 < bytes)
    (v : Value) (xs : List α) (p : α) (cs : List Value) (ok okp : Nat → Prop) (hs : a.eval s = v) (hx : a.eval x = .slice (some ⟨W.heap.size, 0, none⟩) 1 1) (hp : d.M W base okp p cs) (hokp : ∀ k, okp k → ok k ∧ some k ≠ v.ownBlock) (hfresh : ∀ k, W.heap.size ≤ k → ok k)
    (HO : d.R e W base ok v xs) (HB : Below base w0 W) (hbase : base ≤ W.heap.size) (hl : (xs.length + 1) * bytes ≤ 140737488355328)
    (h : ∀ v1 w1, d.R e w1 base ok v1 (xs ++ [p]) → Below base w0 w1 → W.grownBy w1 v.ownBlock → (v1.ownBlock = v.ownBlock ∨ ∃ b, v1.ownBlock = some b ∧ W.heap.size ≤ b) → wpListIn F nF P ops Q rest (a.put o.dst v1) w1) :
    wpListIn F nF P ops Q (o :: rest) a (W.alloc (.cells cs.toArray e)) := by
  obtain ⟨h0, inner, hown, hr⟩ := HO
  refine in_append_cells base hgd s x t e z d.sz bytes ho ht hinfo hz hs0 hb0 v xs.length inner cs hs hx (d.K_len (d.K_of_M hp)) (d.K_one (d.K_of_M hp)) hown HB hbase hl ?_
  intro v1 w1 hown1 hb1 hg1 hat1
  exact h v1 w1 (Kd.R_appended h0 hr hp hokp hfresh hown1 hg1 hat1) hb1 hg1 hat1
theorem in_S_append (d : Kd α) {w0 W : World} (base : Nat) (hgd : o.guard = none) (s x : Operand) (t e : TypeId) (z : Value) (bytes : Nat)
    (ho : o.op = .call { callee := .builtin .append, args := #[s, x], argTypes := #[t, t] })
    (ht : P.underlying t = some (.slice e)) (hinfo : (P.info? e).map (fun i => (i.zero, i.size, i.bytes)) = some (some z, d.sz, bytes)) (hz : z.cells.size = d.sz) (hs0 : 0 < d.sz) (hb0 : 0 < bytes)
    (v : Value) (xs : List α) (p : α) (cs : List Value) (ok okp : Nat → Prop) (hs : a.eval s = v) (hx : a.eval x = .slice (some ⟨W.heap.size, 0, none⟩) 1 1) (hp : d.M W base okp p cs) (hokp : ∀ k, okp k → ok k ∧ some k ≠ v.ownBlock) (hfresh : ∀ k, W.heap.size ≤ k → ok k)
    (HO : Kd.S d e W base (fun k => ok k ∧ ¬ okp k) v xs) (HB : Below base w0 W) (hbase : base ≤ W.heap.size) (hl : (xs.length + 1) * bytes ≤ 140737488355328)
    (h : ∀ v1 w1, Kd.S d e w1 base ok v1 (xs ++ [p]) → Below base w0 w1 → W.grownBy w1 v.ownBlock → (v1.ownBlock = v.ownBlock ∨ ∃ b, v1.ownBlock = some b ∧ W.heap.size ≤ b) → wpListIn F nF P ops Q rest (a.put o.dst v1) w1) :
    wpListIn F nF P ops Q (o :: rest) a (W.alloc (.cells cs.toArray e)) := by
  obtain ⟨f, hf, hR⟩ := Kd.S_tag HO xs.length okp (fun _ hk h2 => h2.2 hk)
  refine in_R_append (Kd.tag f d) base hgd s x t e z bytes ho ht hinfo hz hs0 hb0 v xs.zipIdx (p, xs.length) cs ok okp hs hx (d.M_mono (fun k hk => ⟨hk, hf k hk⟩) hp) hokp hfresh (Kd.R_mono hR (fun _ hk => hk.1)) HB hbase (by rw [List.length_zipIdx]; exact hl) ?_
  intro v1 w1 hr
  rw [← Kd.zip_snoc] at hr
  exact h v1 w1 ⟨f, hr⟩
end
section
variable {α : Type} {d : Kd α} {e base : Nat} {ok : Nat → Prop} {w w1 : World} {v : Value} {xs : List α}
/-- A turn of a block that is no cells. -/
theorem S_other (h : Kd.S d e w base ok v xs) {row : Option Nat} (hg : w.grownBy w1 row) (hr : ∀ r, row = some r → ∃ o : Obj, w.heap[r]? = some o ∧ o.isCells = false) : Kd.S d e w1 base ok v xs :=
  Kd.S_mono (Kd.S_grown (Kd.S_bound h) hg (fun k hk e' => by
    obtain ⟨o, ho, hc⟩ := hr k e'.symm
    obtain ⟨_, _, _, q, _, cells, hcell⟩ := hk
    rw [hcell] at ho
    cases ho
    cases hc)) (fun _ hk => hk.1)
theorem R_other (h : d.R e w base ok v xs) {row : Option Nat} (hg : w.grownBy w1 row) (hr : ∀ r, row = some r → ∃ o : Obj, w.heap[r]? = some o ∧ o.isCells = false) : d.R e w1 base ok v xs :=
  Kd.R_mono (Kd.R_grown (Kd.R_bound h) hg (fun k hk e' => by
    obtain ⟨o, ho, hc⟩ := hr k e'.symm
    obtain ⟨_, _, _, q, _, cells, hcell⟩ := hk
    rw [hcell] at ho
    cases ho
    cases hc)) (fun _ hk => hk.1)
theorem blk_other {g : Nat} {o0 : Obj} (h : w.heap[g]? = some o0) (h0 : o0.isCells = true) {row : Option Nat} (hg : w.grownBy w1 row) (hr : ∀ r, row = some r → ∃ o : Obj, w.heap[r]? = some o ∧ o.isCells = false) : w1.heap[g]? = some o0 :=
  (hg.block g (Array.getElem?_eq_some_iff.1 h).1 (fun e' => by
    obtain ⟨o, ho, hc⟩ := hr g e'.symm
    rw [h] at ho
    cases ho
    rw [h0] at hc
    cases hc)).trans h
theorem keepsFrom_below {A B : World} (n : Nat) (h : Below A.heap.size A B) : KeepsFrom n A B :=
  ⟨h.size, fun k o _ hk _ => (h.block k (Array.getElem?_eq_some_iff.1 hk).1).trans hk⟩
end
end Go.Proofs.YtkjnbfjbdlcehaaGreatDoor.P

/- token.Lines: a text's lines. -/
namespace Go.Proofs.YtkjnbfjbdlcehaaGreatDoor.P
open Go.RowKit Go.Proofs.YtkjnbfjbdlcehaaGreatDoorW.PrintWords Go.Proofs.YtkjnbfjbdlcehaaGreatDoorW.PrintLast Go.Proofs.YtkjnbfjbdlcehaaGreatDoorW.PrintMore
set_option linter.unusedVariables false
set_option linter.unusedSimpArgs false
attribute [local go_sem] Oper.semAt_some

def isBad (x : Nat × List Int) : Bool := match verdict x with | .bad _ _ => true | _ => false
def outL (xs : List (Nat × List Int)) : List S84 := xs.filterMap fun x => match verdict x with | .line s => some s | _ => none
theorem outL_snoc (xs : List (Nat × List Int)) (x : Nat × List Int) : outL (xs ++ [x]) = outL xs ++ (match verdict x with | .line s => [s] | _ => []) := by
  unfold outL
  rw [List.filterMap_append]
  congr 1
  simp only [List.filterMap_cons, List.filterMap_nil]
  cases verdict x <;> rfl
theorem outL_length (xs : List (Nat × List Int)) : (outL xs).length ≤ xs.length := List.length_filterMap_le _ _
theorem linesOf_good : ∀ xs : List (Nat × List Int), (∀ x ∈ xs, isBad x = false) → linesOf xs = (outL xs, 0, 0)
  | [], _ => rfl
  | x :: xs, h => by
    have ih := linesOf_good xs (fun y hy => h y (List.mem_cons_of_mem _ hy))
    have hx := h x List.mem_cons_self
    unfold isBad at hx
    show (match verdict x with | .skip => linesOf xs | .bad e p => ([], e, p) | .line s => if (linesOf xs).2.1 = 0 then (s :: (linesOf xs).1, (linesOf xs).2) else ([], (linesOf xs).2)) = _
    have ho : outL (x :: xs) = (match verdict x with | .line s => [s] | _ => []) ++ outL xs := by
      unfold outL
      rw [List.filterMap_cons]
      cases verdict x <;> rfl
    rw [ho]
    cases hv : verdict x with
    | skip => simpa using ih
    | bad e p => rw [hv] at hx; cases hx
    | line s =>
      simp only [ih]
      simp
theorem linesOf_bad : ∀ (pre : List (Nat × List Int)) (x : Nat × List Int) (e p : Int) (rest : List (Nat × List Int)), (∀ y ∈ pre, isBad y = false) → verdict x = .bad e p → e ≠ 0 → linesOf (pre ++ x :: rest) = ([], e, p)
  | [], x, e, p, rest, _, hv, _ => by
    show (match verdict x with | .skip => linesOf rest | .bad e p => ([], e, p) | .line s => if (linesOf rest).2.1 = 0 then (s :: (linesOf rest).1, (linesOf rest).2) else ([], (linesOf rest).2)) = _
    rw [hv]
  | y :: pre, x, e, p, rest, h, hv, he => by
    have ih := linesOf_bad pre x e p rest (fun z hz => h z (List.mem_cons_of_mem _ hz)) hv he
    have hy := h y List.mem_cons_self
    unfold isBad at hy
    show (match verdict y with | .skip => linesOf (pre ++ x :: rest) | .bad e p => ([], e, p) | .line s => if (linesOf (pre ++ x :: rest)).2.1 = 0 then (s :: (linesOf (pre ++ x :: rest)).1, (linesOf (pre ++ x :: rest)).2) else ([], (linesOf (pre ++ x :: rest)).2)) = _
    cases hvy : verdict y with
    | skip => exact ih
    | bad e' p' => rw [hvy] at hy; cases hy
    | line s =>
      simp only [ih]
      rw [if_neg he]
/-- What cutF tells are the text's lines, where they stand. -/
theorem cutF_mem (bs : List Int) : ∀ (f p : Nat), ∀ x ∈ cutF f p (bs.drop p), x.2 = lineOf (bs.drop x.1) ∧ x.1 < bs.length
  | 0, _, x, hx => by cases hx
  | f + 1, p, x, hx => by
    by_cases c : bs.drop p = []
    · rw [c, cutF_nil] at hx
      cases hx
    · rw [cutF_cons f p _ c, List.drop_drop] at hx
      rcases List.mem_cons.1 hx with rfl | hx
      · refine ⟨rfl, ?_⟩
        rcases Nat.lt_or_ge p bs.length with h | h
        · exact h
        · exact absurd (List.drop_eq_nil_of_le h) c
      · exact cutF_mem bs f (p + ((lineOf (bs.drop p)).length + 1)) x (by rw [Nat.add_assoc] at hx; exact hx)
theorem cutF_length (bs : List Int) : ∀ (f p : Nat), (cutF f p (bs.drop p)).length ≤ bs.length - p
  | 0, p => Nat.zero_le _
  | f + 1, p => by
    by_cases c : bs.drop p = []
    · rw [c, cutF_nil]
      exact Nat.zero_le _
    · have hp : p < bs.length := by
        rcases Nat.lt_or_ge p bs.length with h | h
        · exact h
        · exact absurd (List.drop_eq_nil_of_le h) c
      rw [cutF_cons f p _ c, List.drop_drop, List.length_cons]
      have := cutF_length bs f (p + ((lineOf (bs.drop p)).length + 1))
      rw [Nat.add_assoc]
      omega
/-- A fault's box. -/
def FBox (n1 : Nat) (e p : Int) (W : World) : Prop := W.heap[n1]? = some (.cells #[.int .i64 e, .int .i64 p] 44 (0, 0))
/-- What stands in the boxes between two rounds. -/
def LinI (w : World) (pre : List (Nat × List Int)) (W : World) : Prop :=
  ((∃ v, Boxed W w.heap.size 76 v ∧ Kd.S k84 84 W w.heap.size (fun k => k ≠ w.heap.size + 1 + 1) v (outL pre)) ∧ FBox (w.heap.size + 1) 0 0 W ∧ (∀ x ∈ pre, isBad x = false)) ∧ Below w.heap.size w W
/-- .. and where a round has left. -/
def LinX (w : World) (c : Code) (pre : List (Nat × List Int)) (W : World) : Prop :=
  ∃ q x e p, c = .exit 0 ∧ pre = q ++ [x] ∧ (∀ y ∈ q, isBad y = false) ∧ verdict x = .bad e p ∧ (e ≠ 0 ∧ (∃ v, Boxed W w.heap.size 76 v) ∧ FBox (w.heap.size + 1) e p W) ∧ Below w.heap.size w W
theorem linI_own (w : World) (B : Nat) (hB : w.heap.size ≤ B) : OwnFrom B (LinI w) := by
  rintro s X Y row ⟨⟨⟨v, hv, hS⟩, hf, hb⟩, hB1⟩ hg hr
  have hr' := fun r e => (hr r e).2
  exact ⟨⟨⟨v, blk_other hv rfl hg hr', S_other hS hg hr'⟩, blk_other hf rfl hg hr', hb⟩, (ownFrom_below (β := Unit) (Nat.le_refl _) hB) () X Y row hB1 hg hr⟩
theorem linX_own (w : World) (B : Nat) (hB : w.heap.size ≤ B) (c : Code) : OwnFrom B (LinX w c) := by
  rintro s X Y row ⟨q, x, e, p, hc, hs, hq, hx, ⟨he, ⟨v, hv⟩, hf⟩, hB1⟩ hg hr
  have hr' := fun r e => (hr r e).2
  exact ⟨q, x, e, p, hc, hs, hq, hx, ⟨he, ⟨v, blk_other hv rfl hg hr'⟩, blk_other hf rfl hg hr'⟩, (ownFrom_below (β := Unit) (Nat.le_refl _) hB) () X Y row hB1 hg hr⟩
theorem linI_below (w : World) (s : List (Nat × List Int)) (A B : World) (h : LinI w s A) (hb : Below A.heap.size A B) : LinI w s B := by
  obtain ⟨⟨⟨v, hv, hS⟩, hf, hbad⟩, hB1⟩ := h
  exact ⟨⟨⟨v, blk_below hv hb, Kd.S_below hS hb⟩, blk_below hf hb, hbad⟩, hB1.trans (hb.mono hB1.size)⟩
theorem linX_below (w : World) (c : Code) (s : List (Nat × List Int)) (A B : World) (h : LinX w c s A) (hb : Below A.heap.size A B) : LinX w c s B := by
  obtain ⟨q, x, e, p, hc, hs, hq, hx, ⟨he, ⟨v, hv⟩, hf⟩, hB1⟩ := h
  exact ⟨q, x, e, p, hc, hs, hq, hx, ⟨he, ⟨v, blk_below hv hb⟩, blk_below hf hb⟩, hB1.trans (hb.mono hB1.size)⟩
/-- Where the next word begins. -/
def endAt : Int → List ByteArray → Int
  | p, [] => p
  | p, w :: ws => endAt (p + (w.size : Int) + 1) ws
theorem endAt_snoc (x : ByteArray) : ∀ (ws : List ByteArray) (p : Int), endAt p (ws ++ [x]) = endAt p ws + (x.size : Int) + 1
  | [], p => rfl
  | w :: ws, p => endAt_snoc x ws (p + (w.size : Int) + 1)
theorem wordsAt_snoc (x : ByteArray) : ∀ (ws : List ByteArray) (p : Int), wordsAt p (ws ++ [x]) = wordsAt p ws ++ [⟨x, endAt p ws⟩]
  | [], p => rfl
  | w :: ws, p => by
    show (⟨w, p⟩ : S128) :: wordsAt _ (ws ++ [x]) = _
    rw [wordsAt_snoc x ws (p + (w.size : Int) + 1)]
    rfl
theorem wordsAt_length : ∀ (ws : List ByteArray) (p : Int), (wordsAt p ws).length = ws.length
  | [], _ => rfl
  | w :: ws, p => by
    show (wordsAt _ ws).length + 1 = ws.length + 1
    rw [wordsAt_length ws _]
def sumB (ws : List ByteArray) : Nat := (ws.map (·.size + 1)).sum
theorem endAt_sum : ∀ (ws : List ByteArray) (p : Int), endAt p ws = p + (sumB ws : Int)
  | [], p => by simp [endAt, sumB]
  | w :: ws, p => by
    show endAt (p + (w.size : Int) + 1) ws = _
    rw [endAt_sum ws]
    simp only [sumB, List.map_cons, List.sum_cons]
    omega
theorem pieces_sum (sep : UInt8) : ∀ l : List UInt8, ((pieces sep l).map (·.length + 1)).sum = l.length + 1
  | [] => rfl
  | c :: l => by
    have ih := pieces_sum sep l
    rw [pieces_cons]
    split
    · simp only [List.map_cons, List.sum_cons, ih, List.length_nil, List.length_cons]
      omega
    · split
      · rename_i h
        exact absurd h (pieces_ne sep l)
      · rename_i q qs h
        rw [h] at ih
        simp only [List.map_cons, List.sum_cons, List.length_cons] at ih ⊢
        omega
theorem piecesB_sum (s : ByteArray) : sumB (piecesB s) = s.size + 1 := by
  have h := pieces_sum 32 s.data.toList
  unfold sumB piecesB
  rw [List.map_map]
  have e : ((fun x : ByteArray => x.size + 1) ∘ fun l : List UInt8 => (⟨l.toArray⟩ : ByteArray)) = fun l : List UInt8 => l.length + 1 := by
    funext l
    show l.toArray.size + 1 = l.length + 1
    simp
  rw [e, h]
  rfl
theorem sumB_prefix {a b : List ByteArray} (h : a <+: b) : sumB a ≤ sumB b := by
  obtain ⟨c, rfl⟩ := h
  unfold sumB
  rw [List.map_append, List.sum_append]
  omega
theorem sumB_length : ∀ ws : List ByteArray, ws.length ≤ sumB ws
  | [] => Nat.zero_le _
  | w :: ws => by
    have := sumB_length ws
    simp only [sumB, List.map_cons, List.sum_cons, List.length_cons] at this ⊢
    omega
/-- What stands in the boxes of a line under way: Wb's heap ends where the line's boxes begin; M: where the splitter's boxes begin. -/
def WorI (Wb : World) (M : Nat) (p : Int) (pre : List ByteArray) (W : World) : Prop :=
  (∃ v, W.heap[Wb.heap.size]? = some (.cells #[.int .i64 p, v] 84 (0, 0)) ∧ k128.R 128 W Wb.heap.size (fun k => k ≠ M ∧ k ≠ M + 1 ∧ k ≠ M + 1 + 1) v (wordsAt p pre) ∧ Boxed W (Wb.heap.size + 1) 3 (.int .i64 (endAt p pre)) ∧ M + 1 + 1 < W.heap.size) ∧ Below Wb.heap.size Wb W
theorem worI_own (Wb : World) (M : Nat) (p : Int) (B : Nat) (hB : Wb.heap.size ≤ B) : OwnFrom B (WorI Wb M p) := by
  rintro s X Y row ⟨⟨v, hv, hR, hp, hm⟩, hB1⟩ hg hr
  have hr' := fun r e => (hr r e).2
  exact ⟨⟨v, blk_other hv rfl hg hr', R_other hR hg hr', blk_other hp rfl hg hr', Nat.lt_of_lt_of_le hm hg.size⟩, (ownFrom_below (β := Unit) (Nat.le_refl _) hB) () X Y row hB1 hg hr⟩
theorem worI_set (Wb : World) (M : Nat) (p : Int) (hM : Wb.heap.size + 1 < M) (s : List ByteArray) (A B : World) (h : WorI Wb M p s A) (hb : ∃ v, B = A.setCell ⟨M, 0, none⟩ v) : WorI Wb M p s B := by
  obtain ⟨u, rfl⟩ := hb
  obtain ⟨⟨v, hv, hR, hp, hm⟩, hB1⟩ := h
  exact ⟨⟨v, blk_far hv (by simp; omega) _, Kd.R_far (p := ⟨M, 0, none⟩) hR (fun k hk => hk.1) _, blk_far hp (by simp; omega) _, by simpa using hm⟩, hB1.setCell (by simp; omega) _⟩
theorem boxes3_trans {B1 B2 B3 : Nat} {A B C : World} (h : Boxes3 B1 B2 B3 A B) (k : Boxes3 B1 B2 B3 B C) : Boxes3 B1 B2 B3 A C := ⟨k.1.trans h.1, k.2.1.trans h.2.1, k.2.2.trans h.2.2⟩
theorem lines_results (tmps : Array Value) (w : World) (g g' : Nat) (v : Value) (a b : Int) (hv : v.oneCell' = true) (hp : tmps[2]?.getD undef = .pointer (some ⟨g, 0, none⟩)) (hp' : tmps[3]?.getD undef = .pointer (some ⟨g', 0, none⟩)) (hg : Boxed w g 76 v) (hg' : FBox g' a b w) :
    (results Tryz.f49 tmps).run Tryz.prog w = .ok (.tuple #[v, .agg #[.int .i64 a, .int .i64 b]]) w := by
  have c0 := hg.cell
  have c1 := (blk_cell hg' 0).trans rfl
  have c2 := (blk_cell hg' 1).trans rfl
  have hu := Tryz.underlying76
  simp [results, Tryz.results49, go_sem, hp, hp', c0, c1, c2, hu, asAddr]
theorem infoL : (Tryz.prog.info? 84).map (fun i => (i.zero, i.size, i.bytes)) = some (some (.agg #[(.int .i64 0), (.slice none 0 0)]), 2, 32) := by kernel_rfl
theorem infoW : (Tryz.prog.info? 128).map (fun i => (i.zero, i.size, i.bytes)) = some (some (.agg #[(.string ⟨#[]⟩), (.int .i64 0)]), 2, 24) := by kernel_rfl
set_option maxRecDepth 100000 in
set_option maxHeartbeats 1000000 in
theorem lines_in (A0 : Option Addr) (c0 : Nat) (bs : List Int) (g o : Nat) (w : World) (hu : isU8 bs = true) (hlen : bs.length ≤ 67108864) (hc0 : bs.length ≤ c0)
    (hseq : ∀ W2 : World, Below w.heap.size w W2 → w.heap.size + 1 + 1 < W2.heap.size → W2.cell? ⟨w.heap.size + 1 + 1, 0, none⟩ = some (.slice A0 bs.length c0) →
      SeqT Tryz.prog 102 #[.pointer (some ⟨w.heap.size + 1 + 1, 0, none⟩)] (lineV g o c0) (Two (w.heap.size + 1 + 1) g) (fun A B => Below A.heap.size A B) (fun pre x => (pre ++ [x]) <+: cutF (bs.length + 1) 0 bs) (fun xs => xs = cutF (bs.length + 1) 0 bs) (fun pre => pre <+: cutF (bs.length + 1) 0 bs) W2)
    (hg2 : g < w.heap.size + 1 + 1 + 1) (hg : bs.length ≠ 0 → g < w.heap.size) (hcs : ∀ i, i < bs.length → w.cell? ⟨g, o + i, none⟩ = some (.int .u8 (bs.getD i 0))) :
    CallsIn Fence.wide 0 Tryz.prog 49 #[.slice A0 bs.length c0] w fun e w' => ∃ v0_ : Value, e = .returned (.tuple #[v0_, .agg #[.int .i64 (linesOf (cutF (bs.length + 1) 0 bs)).2.1, .int .i64 (linesOf (cutF (bs.length + 1) 0 bs)).2.2]]) ∧ Kd.S k84 84 w' w.heap.size (fun _ => True) v0_ (linesOf (cutF (bs.length + 1) 0 bs)).1 ∧ Below w.heap.size w w' := by
  have HU := Aside0.mk hu
  have HSEQ := Aside0.mk hseq
  have HG := Aside0.mk hg
  have HCS := Aside0.mk hcs
  clear hu hseq hg hcs
  have z1 : decide (67108864 < (bs.length : Int)) = false := decide_eq_false (by omega)
  have z2 : ¬ ((67108864 : Int) < (bs.length : Int)) := by omega
  refine callsIn_of_wp_marks Tryz.func49 rfl trivial ?_ rfl
  simp only [Tryz.ntmps49, List.size_toArray, List.length_cons, List.length_nil, Nat.reduceAdd, Nat.reduceSub, Array.replicate_succ, Array.replicate_zero, List.push_toArray, List.append_toArray, List.nil_append, List.cons_append]
  refine wpIn_wide.2 ?_
  go_wp2_with fail
  go_step3
  go_wp2_with fail
  go_step3
  have hbox : ∃ W0, Aside0 (W0 = (w.alloc (.cells #[.slice none 0 0] 76)).alloc (.cells #[.int .i64 0, .int .i64 0] 44)) := ⟨_, ⟨rfl⟩⟩
  obtain ⟨W0, hW0⟩ := hbox
  have hs0 : W0.heap.size = w.heap.size + 1 + 1 := by rw [hW0.out]; simp
  have bO : Boxed W0 w.heap.size 76 (.slice none 0 0) := by rw [hW0.out]; exact (Boxed.new w _ _).alloc _
  have bF : FBox (w.heap.size + 1) 0 0 W0 := by
    rw [hW0.out]
    have := blk_new (w.alloc (.cells #[.slice none 0 0] 76)) (.cells #[.int .i64 0, .int .i64 0] 44)
    rw [World.size_alloc] at this
    exact this
  have hB0 : Below w.heap.size w W0 := by rw [hW0.out]; exact ((Below.refl _ w).alloc (Nat.le_refl _) _).alloc (by simp) _
  have BO := Aside0.mk bO
  have BF := Aside0.mk bF
  have HB0 := Aside0.mk hB0
  rw [← hW0.out]
  clear bO bF hB0 hW0
  go_wp2_with fail
  refine (callsIn_wide.1 (cut_in A0 bs.length c0 W0)).mono ?_
  rintro e W2 ⟨rfl, hW2⟩
  have hs2 : W2.heap.size = w.heap.size + 1 + 1 + 1 := by rw [hW2]; simp [hs0]
  have hBb : Boxed W2 (w.heap.size + 1 + 1) 41 (.slice A0 bs.length c0) := by rw [hW2, ← hs0]; exact Boxed.new W0 _ _
  have BO2 := Aside0.mk (show Boxed W2 w.heap.size 76 (.slice none 0 0) by rw [hW2]; exact BO.out.alloc _)
  have BF2 := Aside0.mk (show FBox (w.heap.size + 1) 0 0 W2 by rw [hW2]; exact blk_below BF.out ((Below.refl _ _).alloc (Nat.le_refl _) _))
  have HB2 := Aside0.mk (show Below w.heap.size w W2 by rw [hW2]; exact HB0.out.alloc HB0.out.size _)
  have HBb := Aside0.mk hBb
  have HS2 := Aside0.mk hs2
  rw [hs0]
  clear hs0 hs2 hBb hW2 BO BF HB0
  go_wp2_with fail
  refine (wpIn_wide (n := 0)).1 (range_lawH rfl (enters_of Tryz.func102 (by kernel_rfl) rfl) (HSEQ.out W2 HB2.out (by rw [HS2.out]; omega) HBb.out.cell) (Below.refl _ _)
      (fun h k => h.trans k) (fun W l o o' hl ho _ _ => ⟨World.putObj_heap_other (by rw [HS2.out] at hl; omega), World.putObj_heap_other (by rw [HS2.out] at hl; omega)⟩)
      (fun A B h k o hk ho => (h.block k (Array.getElem?_eq_some_iff.1 ho).1).trans ho) (fun x => by unfold lineV; rfl)
      (LinI w) (LinX w) (linI_own w _ (by rw [HS2.out]; omega)) (linX_own w _ (by rw [HS2.out]; omega)) (linI_below w) (linX_below w)
      ⟨⟨⟨_, BO2.out, Kd.S_nil _ _ _ _ _⟩, BF2.out, fun _ h => by cases h⟩, HB2.out⟩ ?_ ?_ ?_ ?_ ?_)
  rotate_left 1
  · intro l x W K hK
    unfold lineV
    gi_wp2
    exact hK
  · rintro l pre ⟨p, L⟩ W hlW ⟨rL, hrL⟩ ⟨⟨⟨v, hv, hS⟩, hf, hbad⟩, hB⟩ hR
    have hpre : ∀ y ∈ pre ++ [(p, L)], y ∈ cutF (bs.length + 1) 0 (bs.drop 0) := fun y hy => by rw [List.drop_zero]; exact hR.subset hy
    obtain ⟨hL, hp⟩ := cutF_mem bs (bs.length + 1) 0 (p, L) (hpre _ (by simp))
    dsimp only at hL hp
    have hLl : L.length ≤ bs.length - p := by
      have := lineOf_le (bs.drop p)
      rw [← hL, List.length_drop] at this
      exact this
    have HL := Aside0.mk hL
    have HR := Aside0.mk hR
    have HP := Aside0.mk hpre
    have HV := Aside0.mk hv
    have HSS := Aside0.mk hS
    have HF := Aside0.mk hf
    have HBAD := Aside0.mk hbad
    have HB := Aside0.mk hB
    have HRL := Aside0.mk hrL
    have HLW := Aside0.mk hlW
    have hlenW : W2.heap.size ≤ l := HLW.out
    have hlenL : l < W.heap.size := blk_lt HRL.out
    have hW2s : W2.heap.size = w.heap.size + 1 + 1 + 1 := HS2.out
    clear hL hR hpre hv hS hf hbad hB hrL hlW
    have hl63 : L.length < 4611686018427387904 := by omega
    have m0 := blk_cell HF.out 0
    have m1 := blk_cell HF.out 1
    have k0 := blk_frozen HF.out 0
    have k1 := blk_frozen HF.out 1
    replace m0 := m0.trans rfl
    replace m1 := m1.trans rfl
    by_cases cA : 65536 < L.length
    · have d1 : decide (65536 < (L.length : Int)) = true := decide_eq_true (by omega)
      have hver : verdict (p, L) = .bad 4 p := by unfold verdict; rw [if_pos cA]
      have HVER := Aside0.mk hver
      clear cA hver
      gi_wp2
      refine ⟨((KeepsOthers.setCell _ _ _).trans (KeepsOthers.setCell _ _ _)).from _, pre, (p, L), 4, p, rfl, rfl, HBAD.out, HVER.out, ⟨by decide, ⟨v, ?_⟩, ?_⟩, ?_⟩
      · exact blk_far (blk_far HV.out (by simp) _) (by simp) _
      · exact blk_put (blk_put HF.out 0 (.int .i64 4) rfl) 1 (.int .i64 p) rfl
      · exact (HB.out.setCell (p := ⟨w.heap.size + 1, 0, none⟩) (by simp) _).setCell (p := ⟨w.heap.size + 1, 1, none⟩) (by simp) _
    · have d1 : decide (65536 < (L.length : Int)) = false := decide_eq_false (by omega)
      by_cases cE : L = []
      · subst cE
        have hver : verdict (p, []) = .skip := by unfold verdict; rw [if_neg cA, if_pos (by simp)]
        have HVER := Aside0.mk hver
        clear cA hver
        gi_wp2
        refine ⟨KeepsFrom.refl _ _, ⟨rfl, rfl⟩, ⟨⟨v, HV.out, ?_⟩, HF.out, ?_⟩, HB.out⟩
        · rw [outL_snoc, HVER.out, List.append_nil]
          exact HSS.out
        · intro y hy
          rcases List.mem_append.1 hy with hy | hy
          · exact HBAD.out y hy
          · rw [List.mem_singleton.1 hy]
            unfold isBad
            rw [HVER.out]
      · have hL0 : 0 < L.length := List.length_pos_iff.2 cE
        have hgw : g < w.heap.size := HG.out (by omega)
        have hcell : ∀ j, j < L.length → W.cell? ⟨g, o + p + j, none⟩ = some (.int .u8 (L.getD j 0)) := by
          intro j hj
          have h1 := (HB.out.cell (p := ⟨g, o + (p + j), none⟩) hgw).trans (HCS.out (p + j) (by omega))
          rw [show o + p + j = o + (p + j) by omega, h1]
          have h2 := lineOf_take (bs.drop p)
          rw [← HL.out] at h2
          have h3 : L.getD j 0 = bs.getD (p + j) 0 := by
            rw [List.getD_eq_getElem?_getD, List.getD_eq_getElem?_getD]
            have h4 : L[j]? = (bs.drop p)[j]? := by
              rw [h2, List.getElem?_take_of_lt hj]
            rw [h4, List.getElem?_drop]
          rw [h3]
        have hC : Kd.C (Kd.int .u8) W (some ⟨g, o + p, none⟩) L.length L := Kd.C_of_reads (enc := Value.int .u8) (d := (0 : Int)) ⟨rfl, by omega, fun _ => ⟨_, rfl, fun j hj => by
          have e' : (⟨g, o + p, none⟩ : Addr).add j = ⟨g, o + p + j, none⟩ := by
            unfold Addr.add
            split <;> simp_all
          rw [e']
          exact hcell j hj⟩⟩
        have hH := hcell 0 hL0
        rw [Nat.add_zero] at hH
        obtain ⟨H, hHe⟩ : ∃ H, Aside0 (L.getD 0 0 = H) := ⟨_, ⟨rfl⟩⟩
        rw [hHe.out] at hH
        have hhd : L.headD 0 = H := by
          rw [← hHe.out]
          cases L with
          | nil => exact absurd rfl cE
          | cons a b => rfl
        have HC := Aside0.mk hC
        clear hcell hC
        by_cases c35 : H = 35
        · have hver : verdict (p, L) = .skip := by unfold verdict; rw [if_neg cA, if_pos (.inr (hhd.trans c35))]
          have HVER := Aside0.mk hver
          subst c35
          clear cA hver hhd
          gi_wp2
          refine ⟨KeepsFrom.refl _ _, ⟨rfl, rfl⟩, ⟨⟨v, HV.out, ?_⟩, HF.out, ?_⟩, HB.out⟩
          · rw [outL_snoc, HVER.out, List.append_nil]
            exact HSS.out
          · intro y hy
            rcases List.mem_append.1 hy with hy | hy
            · exact HBAD.out y hy
            · rw [List.mem_singleton.1 hy]
              unfold isBad
              rw [HVER.out]
        · have d35 : (H == 35) = false := beq_eq_false_iff_ne.2 c35
          have HW := Aside0.mk (fun W' h => token_wrong.calls (L.length + 1) (some ⟨g, o + p, none⟩) (c0 - p) L (wrongS false 0 L) W' h (by omega) (wrong_f L hl63))
          have hnsk : ¬ (L.isEmpty ∨ L.headD 0 = 35) := by
            rw [hhd]
            rintro (h | h)
            · exact cE (by simpa using h)
            · exact c35 h
          have hver0 : verdict (p, L) = if 0 ≤ wrongS false 0 L then .bad 5 (p + wrongS false 0 L) else .line ⟨p, wordsAt p (piecesB (strOfNums L))⟩ := by
            unfold verdict
            rw [if_neg cA, if_neg hnsk]
          have hL65 : L.length ≤ 65536 := by omega
          have hrng := wrongS_range L false 0
          simp only [Int.natCast_zero, Int.zero_add] at hrng
          have HVER := Aside0.mk hver0
          clear hver0 hnsk cA hhd c35
          gi_wp2_with fail
          refine ⟨trivial, rfl, (CallsIn.inRound l (callsIn_wide.2 (HW.out _ HC.out))).mono ?_⟩
          rintro e W3 ⟨rfl, hdr⟩
          have hb3 := hdr.below
          have HB3 := Aside0.mk (HB.out.trans (hb3.mono HB.out.size))
          have HK3 := Aside0.mk (fun n => keepsFrom_below n hb3)
          have HV3 := Aside0.mk (blk_below HV.out hb3)
          have HF3 := Aside0.mk (blk_below HF.out hb3)
          have HS3 := Aside0.mk (Kd.S_below HSS.out hb3)
          have HC3 := Aside0.mk (Kd.C_below HC.out hb3)
          have HT3 := Aside0.mk (Two.below (B1 := w.heap.size + 1 + 1) (B2 := g) (A := W) (B := W) ⟨rfl, rfl⟩ (by omega) (by omega) hb3)
          have HRL3 := Aside0.mk (blk_below HRL.out hb3)
          clear hdr hb3 HV HF HSS HC m0 m1 k0 k1 hH HW
          have m0 := blk_cell HF3.out 0
          have m1 := blk_cell HF3.out 1
          have k0 := blk_frozen HF3.out 0
          have k1 := blk_frozen HF3.out 1
          replace m0 := m0.trans rfl
          replace m1 := m1.trans rfl
          by_cases cw : 0 ≤ wrongS false 0 L
          · have hver := HVER.out
            rw [if_pos cw] at hver
            generalize wrongS false 0 L = i at *
            have HVER2 := Aside0.mk hver
            have e1 : IntKind.i64.wrap ((p : Int) + i) = (p : Int) + i := IntWalk.i64_in _ (by omega)
            have e2 : decide ((0 : Int) ≤ i) = true := decide_eq_true cw
            clear hver HVER
            gi_wp2
            refine ⟨(HK3.out _).trans (((KeepsOthers.setCell _ _ _).trans (KeepsOthers.setCell _ _ _)).from _), pre, (p, L), 5, p + i, rfl, rfl, HBAD.out, HVER2.out, ⟨by decide, ⟨v, ?_⟩, ?_⟩, ?_⟩
            · exact blk_far (blk_far HV3.out (by simp) _) (by simp) _
            · exact blk_put (blk_put HF3.out 0 (.int .i64 5) rfl) 1 (.int .i64 (p + i)) rfl
            · exact (HB3.out.setCell (p := ⟨w.heap.size + 1, 0, none⟩) (by simp) _).setCell (p := ⟨w.heap.size + 1, 1, none⟩) (by simp) _
          · have hver := HVER.out
            rw [if_neg cw] at hver
            have HVER2 := Aside0.mk hver
            have e2 : decide ((0 : Int) ≤ wrongS false 0 L) = false := decide_eq_false cw
            clear hver HVER
            have hbw : Below W3.heap.size W3 ((W3.alloc (.cells #[.int .i64 (p : Int), .slice none 0 0] 84)).alloc (.cells #[.int .i64 (p : Int)] 3)) := ((Below.refl _ W3).alloc (Nat.le_refl _) _).alloc (by simp) _
            have hcv := Kd.C_string (P := Tryz.prog) (c := c0 - p) Tryz.underlying41 Tryz.underlying5 Tryz.underlying9 (Kd.C_below HC3.out hbw)
            gi_wp2_with fail
            obtain ⟨W4, hW4⟩ : ∃ W4, Aside0 (W4 = (W3.alloc (.cells #[.int .i64 (p : Int), .slice none 0 0] 84)).alloc (.cells #[.int .i64 (p : Int)] 3)) := ⟨_, ⟨rfl⟩⟩
            have hs4 : W4.heap.size = W3.heap.size + 1 + 1 := by rw [hW4.out]; simp
            have HB4 := Aside0.mk (show Below W3.heap.size W3 W4 by rw [hW4.out]; exact hbw)
            have HL4 := Aside0.mk (show W4.heap[W3.heap.size]? = some (.cells #[.int .i64 (p : Int), .slice none 0 0] 84 (0, 0)) by rw [hW4.out]; exact blk_below (blk_new W3 _) ((Below.refl _ _).alloc (Nat.le_refl _) _))
            have HP4 := Aside0.mk (show Boxed W4 (W3.heap.size + 1) 3 (.int .i64 (p : Int)) by
              rw [hW4.out]
              have := blk_new (W3.alloc (.cells #[.int .i64 (p : Int), .slice none 0 0] 84)) (.cells #[.int .i64 (p : Int)] 3)
              rw [World.size_alloc] at this
              exact this)
            rw [← hW4.out]
            clear hcv hbw hW4
            refine ⟨trivial, rfl, (CallsIn.inRound l (SplitSeq_in (strOfNums L) W4)).mono ?_⟩
            rintro e W5 ⟨rfl, hW5⟩
            have hs5 : W5.heap.size = W4.heap.size + 1 + 1 + 1 := by rw [hW5]; simp
            have HB5 := Aside0.mk (show Below W4.heap.size W4 W5 by rw [hW5]; exact (((Below.refl _ W4).alloc (Nat.le_refl _) _).alloc (by simp) _).alloc (by simp; omega) _)
            have b2 := Aside0.mk (show Boxed W5 W4.heap.size 9 (.string (strOfNums L)) by rw [hW5]; exact ((Boxed.new W4 _ _).alloc _).alloc _)
            have b1 := Aside0.mk (show Boxed W5 (W4.heap.size + 1) 9 (.string ⟨#[32]⟩) by
              rw [hW5]
              have := Boxed.new (W4.alloc (.cells #[.string (strOfNums L)] 9)) 9 (.string ⟨#[32]⟩)
              rw [World.size_alloc] at this
              exact this.alloc _)
            have b3 := Aside0.mk (show Boxed W5 (W4.heap.size + 1 + 1) 3 (.int .i64 0) by
              rw [hW5]
              have := Boxed.new ((W4.alloc (.cells #[.string (strOfNums L)] 9)).alloc (.cells #[.string ⟨#[32]⟩] 9)) 3 (.int .i64 0)
              rw [World.size_alloc, World.size_alloc] at this
              exact this)
            have HL5 := Aside0.mk (blk_below HL4.out HB5.out)
            have HP5 := Aside0.mk (blk_below HP4.out HB5.out)
            have HB35 := Aside0.mk (HB4.out.trans (HB5.out.mono HB4.out.size))
            have HRL5 := Aside0.mk (blk_below HRL3.out HB35.out)
            have hsz : (strOfNums L).size = L.length := strOfNums_size L
            clear hW5 HL4 HP4
            have HS4 := Aside0.mk hs4
            have HS5 := Aside0.mk hs5
            have HSZ := Aside0.mk hsz
            clear hs4 hs5 hsz
            gi_wp2_with fail
            have hs4 := HS4.out
            have hs5 := HS5.out
            have hsz := HSZ.out
            have hspl := spl_seq (W4.heap.size + 1) W4.heap.size (W4.heap.size + 1 + 1) (by omega) (by omega) (strOfNums L) (by omega) W5 (by omega) (by omega) (by omega) b1.out.cell b2.out.cell b2.out.frozen b3.out.cell
            refine range_lawN (gf := 118) (lb := #[.pointer (some ⟨W4.heap.size + 1, 0, none⟩), .pointer (some ⟨W4.heap.size, 0, none⟩), .pointer (some ⟨W4.heap.size + 1 + 1, 0, none⟩)]) (l₀ := l) (r₀ := rL) HRL5.out rfl (enters_of Tryz.func118 (by kernel_rfl) rfl) hspl (Below.refl _ _)
              (fun h k => boxes3_trans h k) (fun W l o o' hl ho _ _ => ⟨World.putObj_heap_other (by omega), World.putObj_heap_other (by omega), World.putObj_heap_other (by omega)⟩)
              (fun A B h k o hk ho => by obtain ⟨v, rfl⟩ := h; exact (Below.heap_setCell _ _ _ k (by simp; omega)).trans ho) (fun _ => rfl)
              (WorI W3 W4.heap.size (p : Int)) (fun _ _ _ => False) (worI_own W3 _ _ _ (by omega)) (fun _ _ _ _ _ hs _ _ => hs) (worI_set W3 W4.heap.size (p : Int) (by omega)) (fun _ _ _ _ h _ => h)
              ⟨⟨_, HL5.out, Kd.R_nil _ _ _ _ _, HP5.out, by omega⟩, HB35.out⟩ ?_ ?_ ?_ ?_ ?_
            rotate_left 1
            · intro l x W K hK
              gi_wp2
              exact hK
            · rintro l2 prew x W6 ⟨⟨v2, hv2, hR2, hp2, hm2⟩, hB2⟩ hpx
              have hsum := sumB_prefix hpx
              rw [piecesB_sum, hsz] at hsum
              have hsn : sumB (prew ++ [x]) = sumB prew + (x.size + 1) := by simp [sumB]
              have hlw := sumB_length prew
              have hend := endAt_sum prew (p : Int)
              have hwl := wordsAt_length prew (p : Int)
              obtain ⟨E, hE⟩ : ∃ E, Aside0 (endAt (p : Int) prew = E) := ⟨_, ⟨rfl⟩⟩
              rw [hE.out] at hp2 hend
              have b0 : 0 ≤ E := by omega
              have b1' : E ≤ 200000000 := by omega
              have b2' : x.size ≤ 65537 := by omega
              have hl24 : ((wordsAt (p : Int) prew).length + 1) * 24 ≤ 140737488355328 := by rw [hwl]; omega
              have hfr : ∀ k, W6.heap.size ≤ k → (k ≠ W4.heap.size ∧ k ≠ W4.heap.size + 1 ∧ k ≠ W4.heap.size + 1 + 1) := by
                intro k hk
                omega
              have HV6 := Aside0.mk hv2
              have HR6 := Aside0.mk hR2
              have HP6 := Aside0.mk hp2
              have HB6 := Aside0.mk hB2
              have HSN := Aside0.mk hsn
              have HL24 := Aside0.mk hl24
              have HFR := Aside0.mk hfr
              have HM2 := Aside0.mk hm2
              have n0 := (blk_cell hv2 0).trans rfl
              have n1 := (blk_cell hv2 1).trans rfl
              have f0 := blk_frozen hv2 0
              have f1 := blk_frozen hv2 1
              have q0 := hp2.cell
              have q1 := hp2.frozen
              clear hsum hsn hlw hend hwl hpx hv2 hR2 hp2 hB2 hm2 hs4 hs5 hsz hl24 hfr
              gi_wp2_with (gi_at_builtin; refine in_R_append k128 (w0 := W3) W3.heap.size rfl _ _ 82 128 (.agg #[.string ⟨#[]⟩, .int .i64 0]) 24 rfl Tryz.underlying82 infoW rfl (by decide) (by decide) v2 (wordsAt (p : Int) prew) ⟨x, E⟩ [.string x, .int .i64 E] (fun k => k ≠ W4.heap.size ∧ k ≠ W4.heap.size + 1 ∧ k ≠ W4.heap.size + 1 + 1) (fun _ => False) rfl rfl (k128_mkM _ _ _ (⟨x, E⟩ : S128)) (fun _ h => h.elim) HFR.out HR6.out HB6.out HB6.out.size HL24.out ?_; intro v9 w9 hR9 hB9 hg9 hat9; obtain ⟨ad9, c9, rfl⟩ := Kd.R_slice1 hR9 (by simp); have ne1 := Kd.R_ne HR6.out HV6.out (by decide); have ne2 := Kd.R_ne HR6.out HP6.out (by decide); have HV9 := Aside0.mk ((hg9.block _ (blk_lt HV6.out) ne1).trans HV6.out); have HP9 := Aside0.mk ((hg9.block _ (blk_lt HP6.out) ne2).trans HP6.out); have n0' := (blk_cell HV9.out 0).trans rfl; have n1' := (blk_cell HV9.out 1).trans rfl; have f0' := blk_frozen HV9.out 0; have f1' := blk_frozen HV9.out 1; have q0' := (blk_cell HP9.out 0).trans rfl; have q1' := blk_frozen HP9.out 0; have HR9 := Aside0.mk hR9; have HB9 := Aside0.mk hB9; have HG9 := Aside0.mk hg9; clear hR9 hB9 hg9 hat9 ne1 ne2)
              have hR9 := HR9.out
              have e9 : (wordsAt (p : Int) prew ++ [(⟨x, E⟩ : S128)]).length = (wordsAt (p : Int) prew).length + 1 := by simp
              rw [e9] at hR9
              have hs4 := HS4.out
              have hm2 := HM2.out
              have hg9 := HG9.out.size
              have a1 := Kd.R_set hR9 HV9.out (by decide) 1 (.slice (some ad9) ((wordsAt (p : Int) prew).length + 1) c9)
              have a2 := blk_far HP9.out (p := ⟨W3.heap.size, 1, none⟩) (by simp) (.slice (some ad9) ((wordsAt (p : Int) prew).length + 1) c9)
              have keep : ∀ k, k ≠ W3.heap.size → k ≠ W3.heap.size + 1 → k < W6.heap.size → some k ≠ v2.ownBlock → ((w9.setCell ⟨W3.heap.size, 1, none⟩ (.slice (some ad9) ((wordsAt (p : Int) prew).length + 1) c9)).setCell ⟨W3.heap.size + 1, 0, none⟩ (.int .i64 (E + ((x.size : Int) + 1)))).heap[k]? = W6.heap[k]? := fun k h1 h2 h3 h4 =>
                ((Below.heap_setCell _ _ _ k h2).trans (Below.heap_setCell _ _ _ k h1)).trans (HG9.out.block k h3 h4)
              refine ⟨((((KeepsOthers.of_grownBy HG9.out (fun j o' hj ho => ?_)).trans (KeepsOthers.setCell _ _ _)).trans (KeepsOthers.setCell _ _ _)).from _), ⟨keep _ (by omega) (by omega) (by omega) (fun e => (HR6.out.1 _ e.symm).2.1 rfl), keep _ (by omega) (by omega) (by omega) (fun e => (HR6.out.1 _ e.symm).1 rfl), keep _ (by omega) (by omega) (by omega) (fun e => (HR6.out.1 _ e.symm).2.2 rfl)⟩, ⟨_, blk_far (blk_put HV9.out 1 _ rfl) (by simp) _, ?_, ?_, by simp; omega⟩, (HB9.out.setCell (p := ⟨W3.heap.size, 1, none⟩) (Nat.le_refl _) _).setCell (p := ⟨W3.heap.size + 1, 0, none⟩) (Nat.le_succ _) _⟩
              · obtain ⟨cells, hc⟩ := Kd.R_typed HR6.out j hj
                rw [hc] at ho
                cases ho
                rfl
              · rw [wordsAt_snoc, hE.out]
                exact Kd.R_set a1 a2 (by decide) 0 _
              · rw [endAt_snoc, hE.out, Int.add_assoc]
                exact blk_put a2 0 _ rfl
            · rintro wsx W6 rfl ⟨⟨v2, hv2, hR2, hp2, hm2⟩, hB2⟩
              have hb6 : Below W3.heap.size W3 W6 := hB2
              have hw3 : w.heap.size + 1 + 1 + 1 ≤ W3.heap.size := by have := (HK3.out 0).size; omega
              have hv6 := blk_below HV3.out hb6
              obtain ⟨A2, c2, rfl⟩ := Kd.R_slice hR2
              obtain ⟨A1, c1, rfl⟩ := Kd.S_slice HS3.out
              have HO := Aside0.mk (Kd.S_mono (Kd.S_old HS3.out hb6) (fun k hk => ⟨hk.1, Nat.not_le.2 hk.2⟩ : ∀ k, _ → (k ≠ w.heap.size + 1 + 1 ∧ ¬ W3.heap.size ≤ k)))
              have hp := k84_mkM W6 w.heap.size (fun k => W3.heap.size ≤ k) (⟨p, wordsAt p (piecesB (strOfNums L))⟩ : S84) (Kd.R_lower (Kd.R_mono (Kd.R_bound hR2) (fun k hk => hk.2.1)) (show w.heap.size ≤ W3.heap.size by omega))
              have HP := Aside0.mk hp
              have hokp : ∀ k, W3.heap.size ≤ k → (k ≠ w.heap.size + 1 + 1 ∧ some k ≠ (Value.slice A1 (outL pre).length c1).ownBlock) := fun k hk => ⟨by omega, fun e => by have := Kd.S_lt HS3.out k e.symm; omega⟩
              have HOKP := Aside0.mk hokp
              have hfr : ∀ k, W6.heap.size ≤ k → k ≠ w.heap.size + 1 + 1 := fun k hk => by have := hb6.size; omega
              have HFR := Aside0.mk hfr
              have HBw := Aside0.mk (HB3.out.trans (hb6.mono (by omega)))
              have hlp : ((outL pre).length + 1) * 32 ≤ 140737488355328 := by
                have h1 := outL_length pre
                have h2 := HR.out.length_le
                have h3 := cutF_length bs (bs.length + 1) 0
                rw [List.drop_zero] at h3
                simp only [List.length_append, List.length_cons, List.length_nil] at h2
                omega
              have HLP := Aside0.mk hlp
              have HSw := Aside0.mk (HBw.out.size)
              have HV6 := Aside0.mk hv6
              have HF6 := Aside0.mk (blk_below HF3.out hb6)
              have HB6 := Aside0.mk hb6
              have n0 := (blk_cell hv2 0).trans rfl
              have n1 := (blk_cell hv2 1).trans rfl
              have f0 := blk_frozen hv2 0
              have f1 := blk_frozen hv2 1
              have q0 := (blk_cell hv6 0).trans rfl
              have q1 := blk_frozen hv6 0
              clear hp hokp hfr hlp hv6 hb6 hv2 hR2 hp2 hm2 hB2 hs4 hs5 hsz m0 m1 k0 k1
              gi_wp2_with (gi_at_builtin; refine in_S_append k84 (w0 := w) w.heap.size rfl _ _ 76 84 (.agg #[.int .i64 0, .slice none 0 0]) 32 rfl Tryz.underlying76 infoL rfl (by decide) (by decide) (.slice A1 (outL pre).length c1) (outL pre) ⟨p, wordsAt p (piecesB (strOfNums L))⟩ [.int .i64 p, .slice A2 (wordsAt (p : Int) (piecesB (strOfNums L))).length c2] (fun k => k ≠ w.heap.size + 1 + 1) (fun k => W3.heap.size ≤ k) rfl rfl HP.out HOKP.out HFR.out HO.out HBw.out HSw.out HLP.out ?_; intro v9 w9 hR9 hB9 hg9 hat9; obtain ⟨ad9, c9, rfl⟩ := Kd.R_slice1 (Kd.S_R hR9) (by simp); have ne1 := Kd.S_ne HO.out HV6.out (by decide); have HV9 := Aside0.mk ((hg9.block _ (blk_lt HV6.out) ne1).trans HV6.out); have q0' := (blk_cell HV9.out 0).trans rfl; have q1' := blk_frozen HV9.out 0; have HR9 := Aside0.mk hR9; have HB9 := Aside0.mk hB9; have HG9 := Aside0.mk hg9; clear hR9 hB9 hg9 hat9 ne1)
              have hR9 := HR9.out
              have e9 : (outL pre ++ [(⟨p, wordsAt p (piecesB (strOfNums L))⟩ : S84)]).length = (outL pre).length + 1 := by simp
              rw [e9] at hR9
              have hg9 := HG9.out.size
              have hb6 := HB6.out.size
              have hlt := Kd.S_lt HO.out
              have hbs := Kd.S_base HO.out
              have hne : some (w.heap.size + 1 + 1) ≠ (Value.slice A1 (outL pre).length c1).ownBlock := fun e => ((Kd.S_R HO.out).1 _ e.symm).1 rfl
              have hne2 : some g ≠ (Value.slice A1 (outL pre).length c1).ownBlock := fun e => by have := hbs _ e.symm; omega
              have hnf : some (w.heap.size + 1) ≠ (Value.slice A1 (outL pre).length c1).ownBlock := Kd.S_ne HO.out HF6.out (by decide)
              have two6 := HT3.out.below (by omega) (by omega) HB6.out
              refine ⟨((HK3.out _).trans (keepsFrom_below _ HB6.out)).trans (((KeepsOthers.of_grownBy HG9.out (fun j o' hj ho => ?_)).trans (KeepsOthers.setCell _ _ _)).from _), ⟨?_, ?_⟩, ⟨⟨_, blk_put HV9.out 0 _ rfl, ?_⟩, ?_, ?_⟩, HB9.out.setCell (p := ⟨w.heap.size, 0, none⟩) (Nat.le_refl _) _⟩
              · obtain ⟨cells, hc⟩ := Kd.S_typed HO.out j hj
                rw [hc] at ho
                cases ho
                rfl
              · exact ((Below.heap_setCell w9 ⟨w.heap.size, 0, none⟩ _ (w.heap.size + 1 + 1) (by simp; omega)).trans (HG9.out.block (w.heap.size + 1 + 1) (by omega) hne)).trans two6.1
              · exact ((Below.heap_setCell w9 ⟨w.heap.size, 0, none⟩ _ g (Nat.ne_of_lt hgw)).trans (HG9.out.block g (by omega) hne2)).trans two6.2
              · rw [outL_snoc, HVER2.out]
                exact Kd.S_set hR9 HV9.out (by decide) 0 _
              · exact blk_far (p := ⟨w.heap.size, 0, none⟩) ((HG9.out.block (w.heap.size + 1) (by omega) hnf).trans HF6.out) (by simp) _
              · intro y hy
                rcases List.mem_append.1 hy with hy | hy
                · exact HBAD.out y hy
                · rw [List.mem_singleton.1 hy]
                  unfold isBad
                  rw [HVER2.out]
            · intro c pre W _ h
              exact h.elim
  · rintro D xs W hD rfl ⟨⟨⟨v, hv, hS⟩, hf, hbad⟩, hB⟩ hK
    have hr := linesOf_good _ hbad
    obtain ⟨A1, c1, rfl⟩ := Kd.S_slice hS
    have HR := Aside0.mk hr
    have HSS := Aside0.mk hS
    have HV := Aside0.mk hv
    have HF := Aside0.mk hf
    have HB := Aside0.mk hB
    have HK := Aside0.mk hK
    have HD := Aside0.mk hD
    have m0 := (blk_cell hf 0).trans rfl
    have m1 := (blk_cell hf 1).trans rfl
    have k0 := blk_frozen hf 0
    have k1 := blk_frozen hf 1
    have q0 := (blk_cell hv 0).trans rfl
    have q1 := blk_frozen hv 0
    clear hr hS hv hf hbad hB hK hD
    go_wp2
    go_region
    all_goals go_wp2
    all_goals rw [Exit.noGoto_ret]
    change bodyPostM Fence.wide 0 Tryz.prog Tryz.f49 _ .ret _ _
    have hD := HD.out
    rw [HS2.out] at hD
    refine ⟨by simp, .inl ⟨_, _, rfl, run_takeDeferred (ds := []) (((((KeepsOthers.setCell _ _ _).trans (KeepsOthers.setCell _ _ _)).trans (KeepsOthers.setCell _ _ _)).trans (KeepsOthers.drew _)).same D _ HK.out rfl), ?_⟩⟩
    have v1 := blk_put HV.out 0 (Value.slice A1 (outL (cutF (bs.length + 1) 0 bs)).length c1) rfl
    have f1 := blk_far HF.out (p := ⟨w.heap.size, 0, none⟩) (by simp) (Value.slice A1 (outL (cutF (bs.length + 1) 0 bs)).length c1)
    have f2 := blk_put f1 0 (.int .i64 0) rfl
    have v2 := blk_far v1 (p := ⟨w.heap.size + 1, 0, none⟩) (by simp) (.int .i64 0)
    have v3 := blk_far v2 (p := ⟨w.heap.size + 1, 1, none⟩) (by simp) (.int .i64 0)
    have f3 := blk_put f2 1 (.int .i64 0) rfl
    have a1 := Kd.S_set (Kd.S_set (Kd.S_set HSS.out HV.out (by decide) 0 (Value.slice A1 (outL (cutF (bs.length + 1) 0 bs)).length c1)) f1 (by decide) 0 (.int .i64 0)) f2 (by decide) 1 (.int .i64 0)
    have hB3 := ((HB.out.setCell (p := ⟨w.heap.size, 0, none⟩) (Nat.le_refl _) (Value.slice A1 (outL (cutF (bs.length + 1) 0 bs)).length c1)).setCell (p := ⟨w.heap.size + 1, 0, none⟩) (Nat.le_succ _) (.int .i64 0)).setCell (p := ⟨w.heap.size + 1, 1, none⟩) (Nat.le_succ _) (.int .i64 0)
    have hKD := ((((KeepsOthers.setCell W ⟨w.heap.size, 0, none⟩ (Value.slice A1 (outL (cutF (bs.length + 1) 0 bs)).length c1)).trans (KeepsOthers.setCell _ ⟨w.heap.size + 1, 0, none⟩ (.int .i64 0))).trans (KeepsOthers.setCell _ ⟨w.heap.size + 1, 1, none⟩ (.int .i64 0))).same D _ HK.out rfl)
    have hg0 := grownBy_putObj' ((((W.setCell ⟨w.heap.size, 0, none⟩ (Value.slice A1 (outL (cutF (bs.length + 1) 0 bs)).length c1)).setCell ⟨w.heap.size + 1, 0, none⟩ (.int .i64 0)).setCell ⟨w.heap.size + 1, 1, none⟩ (.int .i64 0)).drew) D (.deferred none)
    have hnc : ∀ r, some D = some r → ∃ o : Obj, ((((W.setCell ⟨w.heap.size, 0, none⟩ (Value.slice A1 (outL (cutF (bs.length + 1) 0 bs)).length c1)).setCell ⟨w.heap.size + 1, 0, none⟩ (.int .i64 0)).setCell ⟨w.heap.size + 1, 1, none⟩ (.int .i64 0)).drew).heap[r]? = some o ∧ o.isCells = false := fun r e => by
      cases e
      exact ⟨_, hKD, rfl⟩
    refine ⟨_, lines_results _ _ w.heap.size (w.heap.size + 1) (Value.slice A1 (outL (cutF (bs.length + 1) 0 bs)).length c1) 0 0 rfl rfl rfl (blk_other (blk_drew v3) rfl hg0 hnc) (blk_other (blk_drew f3) rfl hg0 hnc), ?_⟩
    rw [HR.out]
    exact ⟨_, rfl, S_other (Kd.S_drew (Kd.S_mono a1 (fun _ _ => trivial))) hg0 hnc, hB3.drew.trans (belowK_b (w := w) (Nat.le_refl _) _ D _ _ (by omega) hKD rfl rfl)⟩
  · rintro D c pre W hD hpre ⟨q, x, e, pp, rfl, rfl, hq, hx, ⟨he, ⟨v, hv⟩, hf⟩, hB⟩ hK
    obtain ⟨rest, hrest⟩ := hpre
    have hr := linesOf_bad q x e pp rest hq hx he
    rw [List.append_assoc] at hrest
    have hr2 : linesOf (cutF (bs.length + 1) 0 bs) = ([], e, pp) := by rw [← hrest]; exact hr
    have HR := Aside0.mk hr2
    have HV := Aside0.mk hv
    have HF := Aside0.mk hf
    have HB := Aside0.mk hB
    have HK := Aside0.mk hK
    have HD := Aside0.mk hD
    have m0 := (blk_cell hf 0).trans rfl
    have m1 := (blk_cell hf 1).trans rfl
    have k0 := blk_frozen hf 0
    have k1 := blk_frozen hf 1
    have q0 := (blk_cell hv 0).trans rfl
    have q1 := blk_frozen hv 0
    have e1 : (e != 0) = true := by simpa using he
    have e2 : (e == 0) = false := beq_eq_false_iff_ne.2 he
    clear hr hr2 hrest hv hf hB hK hD hq hx he
    refine wpIn_wide.2 ?_
    go_wp2
    go_region
    all_goals go_wp2
    all_goals rw [Exit.noGoto_ret]
    change bodyPostM Fence.wide 0 Tryz.prog Tryz.f49 _ .ret _ _
    have hD := HD.out
    rw [HS2.out] at hD
    refine ⟨by simp, .inl ⟨_, _, rfl, run_takeDeferred (ds := []) (((((KeepsOthers.setCell _ _ _).trans (KeepsOthers.setCell _ _ _)).trans (KeepsOthers.setCell _ _ _)).trans (KeepsOthers.drew _)).same D _ HK.out rfl), ?_⟩⟩
    have v1 := blk_put HV.out 0 (Value.slice none 0 0) rfl
    have f1 := blk_far HF.out (p := ⟨w.heap.size, 0, none⟩) (by simp) (Value.slice none 0 0)
    have f2 := blk_put f1 0 (.int .i64 e) rfl
    have v2 := blk_far v1 (p := ⟨w.heap.size + 1, 0, none⟩) (by simp) (.int .i64 e)
    have v3 := blk_far v2 (p := ⟨w.heap.size + 1, 1, none⟩) (by simp) (.int .i64 pp)
    have f3 := blk_put f2 1 (.int .i64 pp) rfl
    have hB3 := ((HB.out.setCell (p := ⟨w.heap.size, 0, none⟩) (Nat.le_refl _) (Value.slice none 0 0)).setCell (p := ⟨w.heap.size + 1, 0, none⟩) (Nat.le_succ _) (.int .i64 e)).setCell (p := ⟨w.heap.size + 1, 1, none⟩) (Nat.le_succ _) (.int .i64 pp)
    have hKD := ((((KeepsOthers.setCell W ⟨w.heap.size, 0, none⟩ (Value.slice none 0 0)).trans (KeepsOthers.setCell _ ⟨w.heap.size + 1, 0, none⟩ (.int .i64 e))).trans (KeepsOthers.setCell _ ⟨w.heap.size + 1, 1, none⟩ (.int .i64 pp))).same D _ HK.out rfl)
    have hg0 := grownBy_putObj' ((((W.setCell ⟨w.heap.size, 0, none⟩ (Value.slice none 0 0)).setCell ⟨w.heap.size + 1, 0, none⟩ (.int .i64 e)).setCell ⟨w.heap.size + 1, 1, none⟩ (.int .i64 pp)).drew) D (.deferred none)
    have hnc : ∀ r, some D = some r → ∃ o : Obj, ((((W.setCell ⟨w.heap.size, 0, none⟩ (Value.slice none 0 0)).setCell ⟨w.heap.size + 1, 0, none⟩ (.int .i64 e)).setCell ⟨w.heap.size + 1, 1, none⟩ (.int .i64 pp)).drew).heap[r]? = some o ∧ o.isCells = false := fun r e => by
      cases e
      exact ⟨_, hKD, rfl⟩
    refine ⟨_, lines_results _ _ w.heap.size (w.heap.size + 1) (Value.slice none 0 0) e pp rfl rfl rfl (blk_other (blk_drew v3) rfl hg0 hnc) (blk_other (blk_drew f3) rfl hg0 hnc), ?_⟩
    rw [HR.out]
    exact ⟨_, rfl, Kd.S_nil _ _ _ _ _, hB3.drew.trans (belowK_b (w := w) (Nat.le_refl _) _ D _ _ (by omega) hKD rfl rfl)⟩
set_option maxRecDepth 100000 in
set_option maxHeartbeats 1000000 in
theorem lines_long (A0 : Option Addr) (n c0 : Nat) (w : World) (hlen : 67108864 < n) :
    Calls Tryz.prog 49 #[.slice A0 n c0] w fun e w' => ∃ v0_ : Value, e = .returned (.tuple #[v0_, .agg #[.int .i64 4, .int .i64 67108864]]) ∧ Kd.S k84 84 w' w.heap.size (fun _ => True) v0_ [] ∧ Below w.heap.size w w' := by
  have z1 : decide (67108864 < (n : Int)) = true := decide_eq_true (by omega)
  have z2 : ((67108864 : Int) < (n : Int)) := by omega
  have bF := blk_new (w.alloc (.cells #[.slice none 0 0] 76)) (.cells #[.int .i64 4, .int .i64 67108864] 44)
  rw [World.size_alloc] at bF
  have BF := Aside0.mk bF
  clear bF
  go_enter Tryz.func49, Tryz.ntmps49
  go_wp2_with fail
  go_step3
  go_wp2_with fail
  rw [Exit.noGoto_ret]
  refine bodyPost_ret (lines_results _ _ w.heap.size (w.heap.size + 1) (.slice none 0 0) 4 67108864 rfl rfl rfl ((Boxed.new w _ _).alloc _) BF.out) rfl ?_
  exact ⟨_, rfl, Kd.S_nil _ _ _ _ _, ((Below.refl _ w).alloc (Nat.le_refl _) _).alloc (by simp) _⟩
theorem token_Lines.calls (A0 : Option Addr) (c0 : Nat) (l0 : List Int) (r1 : List (S84)) (r2 : Int) (r3 : Int) (w : World) (hr0 : Kd.C (Kd.int .u8) w A0 l0.length l0) (hc0 : l0.length ≤ c0) (h : token_Lines.f l0 = some (r1, r2, r3)) :
    Calls Tryz.prog 49 #[.slice A0 l0.length c0] w fun e w' => ∃ v0_ : Value, e = .returned (.tuple #[v0_, .agg #[.int .i64 r2, .int .i64 r3]]) ∧ Kd.S k84 84 w' w.heap.size (fun _ => True) v0_ r1 ∧ Below w.heap.size w w' := by
  unfold token_Lines.f at h
  by_cases hu : isU8 l0 = true
  · rw [if_pos hu] at h
    by_cases hl : 67108864 < l0.length
    · rw [if_pos hl] at h
      simp only [Option.some.injEq, Prod.mk.injEq] at h
      obtain ⟨rfl, rfl, rfl⟩ := h
      exact lines_long A0 l0.length c0 w hl
    · rw [if_neg hl] at h
      replace h := Option.some.inj h
      have e1 : r1 = (linesOf (cutF (l0.length + 1) 0 l0)).1 := by rw [h]
      have e2 : r2 = (linesOf (cutF (l0.length + 1) 0 l0)).2.1 := by rw [h]
      have e3 : r3 = (linesOf (cutF (l0.length + 1) 0 l0)).2.2 := by rw [h]
      rw [e1, e2, e3]
      by_cases h0 : l0.length = 0
      · obtain rfl : l0 = [] := List.length_eq_zero_iff.1 h0
        exact callsIn_wide.1 (lines_in A0 c0 [] w.heap.size 0 w rfl (by simp) hc0 (fun W2 hb hs hc => cut_seq_nil _ _ _ _ A0 c0 W2 hs hc) (by omega) (fun h => absurd rfl h) (fun i hi => by simp at hi))
      · obtain ⟨ad, rfl, h1⟩ := Kd.at_int hr0 0 (by omega) (by omega)
        have had : ad.block < w.heap.size := World.block_lt_of_cell? w (ad.add (0 : Int).toNat) h1
        obtain ⟨g, o, spot⟩ := ad
        have hspot : spot = none := by simpa [Addr.add] using World.cell?_spot h1
        subst hspot
        have hcs : ∀ i, i < l0.length → w.cell? ⟨g, o + i, none⟩ = some (.int .u8 (l0.getD i 0)) := by
          intro i hi
          obtain ⟨ad', e, hc⟩ := Kd.at_int hr0 (i : Int) (by omega) (by omega)
          cases e
          have e' : (⟨g, o, none⟩ : Addr).add ((i : Int)).toNat = ⟨g, o + i, none⟩ := by
            rw [Int.toNat_natCast]
            unfold Addr.add
            split <;> simp_all
          rw [e'] at hc
          rw [hc]
          rfl
        exact callsIn_wide.1 (lines_in _ c0 l0 g o w hu (by omega) hc0 (fun W2 hb hs hc => cut_seq _ g o c0 l0 hu (by omega) hc0 W2 hs (Nat.lt_of_lt_of_le had hb.size) hc (fun i hi => (hb.cell (p := ⟨g, o + i, none⟩) had).trans (hcs i hi))) (Nat.lt_trans had (by omega)) (fun _ => had) hcs)
  · rw [if_neg hu] at h
    cases h
end Go.Proofs.YtkjnbfjbdlcehaaGreatDoor.P
