/- token: what the lines and words of a text are, in plain words. -/
import Derived.Test.YtoenklncjbcgiaaGreatDoorPx2
import Derived.Lib.Bytealg
import Derived.Lib.Bytes
import Derived.Test.YtoenklncjbcgiaaGreatDoorRF2
import Derived.WalkMore
import Derived.Laws.Externs
import Derived.Laws.BytesArg
import Derived.Deep.QuietTactic
import Derived.BigQuiet
import Derived.Shelf.Bytes.SlIndexAt
import Derived.Lib.IndexBytes
import Derived.Lib.Strings
import Derived.Test.YtoenklncjbcgiaaGreatDoorWMore
import Derived.Maps.OwnIn
namespace Go.Proofs.YtoenklncjbcgiaaGreatDoor.P
open Go.RowKit Go.Proofs.YtoenklncjbcgiaaGreatDoorW.PrintWords Go.Proofs.YtoenklncjbcgiaaGreatDoorW.PrintLast
set_option linter.unusedVariables false
set_option linter.unusedSimpArgs false

/-- The line at the head of some bytes. -/
def lineOf (l : List Int) : List Int := l.takeWhile (· != 10)
/-- All lines, each with where it begins (f: at most so many). -/
def cutF : Nat → Nat → List Int → List (Nat × List Int)
  | 0, _, _ => []
  | f + 1, p, l => if l.isEmpty then [] else (p, lineOf l) :: cutF f (p + (lineOf l).length + 1) (l.drop ((lineOf l).length + 1))
def isU8 (l : List Int) : Bool := l.all fun x => decide (0 ≤ x) && decide (x < 256)
def plainC (c : Int) : Bool := decide (33 ≤ c) && decide (c ≤ 126)
/-- The first byte of a line that may not stand there; -1: there is none. -/
def wrongS : Bool → Int → List Int → Int
  | word, i, [] => if word = true then -1 else i
  | word, i, c :: l => if plainC c = true then wrongS true (i + 1) l else if c = 32 ∧ word = true then wrongS false (i + 1) l else i
/-- What stands between separators. -/
def pieces (sep : UInt8) : List UInt8 → List (List UInt8)
  | [] => [[]]
  | c :: l => if c == sep then [] :: pieces sep l else match pieces sep l with
    | [] => [[c]]
    | p :: ps => (c :: p) :: ps
def piecesB (s : ByteArray) : List ByteArray := (pieces 32 s.data.toList).map fun l => ⟨l.toArray⟩
def wordsAt : Int → List ByteArray → List S60
  | _, [] => []
  | p, w :: ws => ⟨w, p⟩ :: wordsAt (p + (w.size : Int) + 1) ws
inductive Verdict
  | skip
  | bad (e p : Int)
  | line (x : S58)
def verdict (x : Nat × List Int) : Verdict :=
  if 65536 < x.2.length then .bad 4 x.1
  else if x.2.isEmpty ∨ x.2.headD 0 = 35 then .skip
  else if 0 ≤ wrongS false 0 x.2 then .bad 5 (x.1 + wrongS false 0 x.2) else .line ⟨x.1, wordsAt x.1 (piecesB (strOfNums x.2))⟩
def linesOf : List (Nat × List Int) → List S58 × Int × Int
  | [] => ([], 0, 0)
  | x :: xs => match verdict x with
    | .skip => linesOf xs
    | .bad e p => ([], e, p)
    | .line s => if (linesOf xs).2.1 = 0 then (s :: (linesOf xs).1, (linesOf xs).2) else ([], (linesOf xs).2)
def token_Lines.f (l : List Int) : Option (List S58 × Int × Int) :=
  if isU8 l = true then some (if 67108864 < l.length then ([], 4, 67108864) else linesOf (cutF (l.length + 1) 0 l)) else none

theorem lineOf_le (l : List Int) : (lineOf l).length ≤ l.length := by
  unfold lineOf
  exact (List.takeWhile_prefix _).length_le
theorem isU8_mem {l : List Int} (h : isU8 l = true) {x : Int} (hx : x ∈ l) : 0 ≤ x ∧ x < 256 := by
  have := List.all_eq_true.1 h x hx
  simpa using this
theorem isU8_drop {l : List Int} (h : isU8 l = true) (n : Nat) : isU8 (l.drop n) = true :=
  List.all_eq_true.2 fun x hx => List.all_eq_true.1 h x (List.mem_of_mem_drop hx)
theorem isU8_take {l : List Int} (h : isU8 l = true) (n : Nat) : isU8 (l.take n) = true :=
  List.all_eq_true.2 fun x hx => List.all_eq_true.1 h x (List.mem_of_mem_take hx)
theorem u8_eq {x : Int} (h : 0 ≤ x ∧ x < 256) : (UInt8.ofNat x.toNat == (10 : Int).toNat.toUInt8) = (x == 10) := by
  have : (UInt8.ofNat x.toNat = UInt8.ofNat 10) ↔ x = 10 := by
    constructor
    · intro e
      have := congrArg UInt8.toNat e
      simp at this
      omega
    · rintro rfl
      rfl
  rw [Bool.eq_iff_iff, beq_iff_eq, beq_iff_eq]
  exact this
/-- Where the line ends. -/
theorem idx_line (l : List Int) (h : isU8 l = true) :
    (Lib.indexByte (Lib.bytesOf l) (10 : Int).toNat.toUInt8 = -1 ∧ lineOf l = l) ∨ (Lib.indexByte (Lib.bytesOf l) (10 : Int).toNat.toUInt8 = ((lineOf l).length : Int) ∧ (lineOf l).length < l.length) := by
  induction l with
  | nil => exact .inl ⟨rfl, rfl⟩
  | cons x l ih =>
    have hx := isU8_mem h List.mem_cons_self
    have hl : isU8 l = true := List.all_eq_true.2 fun y hy => List.all_eq_true.1 h y (List.mem_cons_of_mem _ hy)
    have hb : Lib.bytesOf (x :: l) = UInt8.ofNat x.toNat :: Lib.bytesOf l := rfl
    rw [hb]
    unfold Lib.indexByte
    rw [u8_eq hx]
    by_cases c : x = 10
    · subst c
      refine .inr ⟨?_, ?_⟩
      · simp [lineOf]
      · simp [lineOf]
    · have e : lineOf (x :: l) = x :: lineOf l := by
        unfold lineOf
        rw [List.takeWhile_cons, if_pos (by simp [c])]
      rw [if_neg (by simp [c]), e]
      rcases ih hl with ⟨h1, h2⟩ | ⟨h1, h2⟩
      · refine .inl ⟨by rw [h1]; rfl, by rw [h2]⟩
      · refine .inr ⟨?_, by simpa using h2⟩
        rw [h1]
        have : (((lineOf l).length : Int) == -1) = false := beq_eq_false_iff_ne.2 (by omega)
        rw [this]
        simp
theorem lineOf_take (l : List Int) : lineOf l = l.take (lineOf l).length := by
  have h : lineOf l <+: l := List.takeWhile_prefix _
  exact List.prefix_iff_eq_take.1 h
/-- Pieces: where a separator stands. -/
theorem pieces_ne (sep : UInt8) : ∀ l, pieces sep l ≠ []
  | [] => by simp [pieces]
  | c :: l => by
    unfold pieces
    split
    · simp
    · split <;> simp
theorem pieces_cons (sep c : UInt8) (l : List UInt8) : pieces sep (c :: l) = if c == sep then [] :: pieces sep l else match pieces sep l with
    | [] => [[c]]
    | p :: ps => (c :: p) :: ps := rfl
theorem pieces_idx (sep : UInt8) : ∀ l : List UInt8,
    (Lib.indexByte l sep = -1 ∧ pieces sep l = [l]) ∨ ∃ i : Nat, Lib.indexByte l sep = (i : Int) ∧ i < l.length ∧ pieces sep l = l.take i :: pieces sep (l.drop (i + 1))
  | [] => .inl ⟨rfl, rfl⟩
  | c :: l => by
    rw [pieces_cons]
    unfold Lib.indexByte
    by_cases e : (c == sep) = true
    · rw [if_pos e, if_pos e]
      exact .inr ⟨0, rfl, by simp, by simp⟩
    · rw [if_neg e, if_neg e]
      rcases pieces_idx sep l with ⟨h1, h2⟩ | ⟨i, h1, h2, h3⟩
      · rw [h1, h2]
        exact .inl ⟨rfl, rfl⟩
      · refine .inr ⟨i + 1, ?_, by simpa using h2, ?_⟩
        · rw [h1]
          have : ((i : Int) == -1) = false := beq_eq_false_iff_ne.2 (by omega)
          rw [this]
          simp
        · rw [h3]
          simp
/-- token.wrong comes to wrongS. -/
theorem wrong_aux (l0 : List Int) (hl : l0.length < 4611686018427387904) : ∀ (k i : Nat) (word : Bool), i ≤ l0.length → l0.length < i + k →
    token_wrong.l0 k l0 word l0 (l0.length : Int) (i : Int) = some (wrongS word i (l0.drop i))
  | 0, i, word, hi, hk => by omega
  | k + 1, i, word, hi, hk => by
    unfold token_wrong.l0
    by_cases c : i < l0.length
    · rw [if_pos (by omega), if_pos (by omega), if_pos (by omega)]
      have ed : l0.drop i = l0[i] :: l0.drop (i + 1) := List.drop_eq_getElem_cons c
      have er : rd l0 (i : Int) = l0[i] := by simp [rd, List.getD, c]
      have ew : wrap64 ((i : Int) + 1) = ((i + 1 : Nat) : Int) := by unfold wrap64; omega
      rw [ed, er, ew]
      have ep : token_plain.f l0[i] = some (plainC l0[i]) := by
        unfold token_plain.f plainC
        split
        · rename_i h1
          rw [decide_eq_true (show (33 : Int) ≤ l0[i] from h1), Bool.true_and]
        · rename_i h1
          rw [decide_eq_false (show ¬ (33 : Int) ≤ l0[i] from h1), Bool.false_and]
      rw [ep]
      simp only [Option.bind_some]
      unfold wrongS
      by_cases p : plainC l0[i] = true
      · rw [if_pos p, if_pos p]
        have e32 : (l0[i] != 32) = true := by
          unfold plainC at p
          simp at p ⊢
          omega
        rw [e32]
        exact wrong_aux l0 hl k (i + 1) true (by omega) (by omega)
      · rw [if_neg p, if_neg p]
        by_cases q : l0[i] = 32
        · rw [if_pos q]
          by_cases r : word = true
          · rw [if_pos r, if_pos ⟨q, r⟩]
            have e32 : (l0[i] != 32) = false := by simp [q]
            rw [e32]
            exact wrong_aux l0 hl k (i + 1) false (by omega) (by omega)
          · rw [if_neg r, if_neg (fun h => r h.2)]
        · rw [if_neg q, if_neg (fun h => q h.1)]
    · have : i = l0.length := by omega
      subst this
      rw [if_neg (by omega), List.drop_length]
      unfold wrongS
      split <;> rfl
theorem wrong_f (l : List Int) (hl : l.length < 4611686018427387904) : token_wrong.f (l.length + 1) l = some (wrongS false 0 l) :=
  wrong_aux l hl (l.length + 1) 0 false (by omega) (by omega)
theorem wrongS_range : ∀ (l : List Int) (word : Bool) (i : Nat), wrongS word i l = -1 ∨ ((i : Int) ≤ wrongS word i l ∧ wrongS word i l ≤ (i : Int) + l.length)
  | [], word, i => by
    unfold wrongS
    split
    · exact .inl rfl
    · exact .inr ⟨by omega, by simp⟩
  | c :: l, word, i => by
    unfold wrongS
    have h1 := wrongS_range l true (i + 1)
    have h2 := wrongS_range l false (i + 1)
    simp only [Int.natCast_add, Int.natCast_one, List.length_cons] at h1 h2 ⊢
    split
    · omega
    · split <;> omega
end Go.Proofs.YtoenklncjbcgiaaGreatDoor.P

/- token: where a byte stands in a row of bytes, in a string; bytes.Cut at one byte. -/
namespace Go.Proofs.YtoenklncjbcgiaaGreatDoor.P
open Go.RowKit Go.Proofs.YtoenklncjbcgiaaGreatDoorW.PrintWords
set_option linter.unusedVariables false
set_option linter.unusedSimpArgs false

set_option maxHeartbeats 1000000 in
set_option maxRecDepth 100000 in
theorem bIndexByte (a : Addr) (n c : Nat) (xs : List Int) (cv : Int) (w : World) (hx : xs.length = n) (hc : ∀ i, i < n → w.cell? (a.add i) = some (.int .u8 (xs.getD i 0))) :
    Calls Tryz.prog 63 #[.slice (some a) n c, .int .u8 cv] w fun e w' => e = .returned (.int .i64 (Lib.indexByte (Lib.bytesOf xs) cv.toNat.toUInt8)) ∧ w' = w := by
  go_enter Tryz.func63, Tryz.ntmps63
  go_wp2
  rw [run_callFunc_extern Tryz.func71 (by kernel_rfl) (by kernel_rfl) (by kernel_rfl) (e := Extern.BytealgIndexByte.indexByte) (by kernel_rfl), Lib.run_indexByteAt w a n c xs hx hc cv]
  simp only [Result.andThen]
  rw [Oper.upon_value]
  go_wp2
  go_ret
  exact ⟨rfl, rfl⟩
set_option maxHeartbeats 1000000 in
set_option maxRecDepth 100000 in
theorem bIndex1 (a : Addr) (n c b2 o2 d : Nat) (xs : List Int) (cv : Int) (w : World) (hx : xs.length = n) (hc : ∀ i, i < n → w.cell? (a.add i) = some (.int .u8 (xs.getD i 0))) (hc2 : w.cell? ⟨b2, o2, none⟩ = some (.int .u8 cv)) :
    Calls Tryz.prog 58 #[.slice (some a) n c, .slice (some ⟨b2, o2, none⟩) 1 d] w fun e w' => e = .returned (.int .i64 (Lib.indexByte (Lib.bytesOf xs) cv.toNat.toUInt8)) ∧ w' = w := by
  have hcon := Aside0.mk (bIndexByte a n c xs cv w hx hc)
  clear hc
  go_enter Tryz.func58, Tryz.ntmps58
  go_wp2_with fail
  refine hcon.out.mono ?_
  rintro e w' ⟨rfl, rfl⟩
  go_wp2
  go_ret
  exact ⟨rfl, rfl⟩
set_option maxHeartbeats 1000000 in
set_option maxRecDepth 100000 in
theorem slIndexByte (s : ByteArray) (c : Int) (w : World) :
    Calls Tryz.prog 73 #[.string s, .int .u8 c] w fun e w' => e = .returned (.int .i64 (Lib.indexByte s.data.toList c.toNat.toUInt8)) ∧ w' = w := by
  go_enter Tryz.func73, Tryz.ntmps73
  go_wp2
  rw [run_callFunc_extern Tryz.func78 (by kernel_rfl) (by kernel_rfl) (by kernel_rfl) (e := Extern.BytealgIndexByte.indexByte) (by kernel_rfl), Lib.run_indexByteString s c w]
  simp only [Result.andThen]
  rw [Oper.upon_value]
  go_wp2
  go_ret
  exact ⟨rfl, rfl⟩
set_option maxHeartbeats 1000000 in
set_option maxRecDepth 100000 in
theorem slIndex1 (s : ByteArray) (w : World) :
    Calls Tryz.prog 69 #[.string s, .string ⟨#[32]⟩] w fun e w' => e = .returned (.int .i64 (Lib.indexByte s.data.toList 32)) ∧ w' = w := by
  have hcon := Aside0.mk (slIndexByte s (((⟨#[32]⟩ : ByteArray)[0]'(by decide)).toNat : Int) w)
  have e32 : (((((⟨#[32]⟩ : ByteArray)[0]'(by decide)).toNat : Int)).toNat.toUInt8) = 32 := by decide
  rw [e32] at hcon
  clear e32
  by_cases c : s = ⟨#[32]⟩
  · subst c
    go_enter Tryz.func69, Tryz.ntmps69
    go_wp2
    go_ret
    exact ⟨rfl, rfl⟩
  · have c1 : ¬ [32] = s.toList := by
      intro e
      apply c
      rw [ByteArray.toList_eq] at e
      cases s with
      | mk d => exact congrArg ByteArray.mk (Array.toList_inj.1 e.symm)
    have c2 : ([32] == s.toList) = false := beq_eq_false_iff_ne.2 c1
    go_enter Tryz.func69, Tryz.ntmps69
    go_wp2_with fail
    refine hcon.out.mono ?_
    rintro e w' ⟨rfl, rfl⟩
    go_wp2
    go_ret
    exact ⟨rfl, rfl⟩
set_option maxHeartbeats 1000000 in
set_option maxRecDepth 100000 in
theorem sIndex1 (s : ByteArray) (w : World) :
    Calls Tryz.prog 61 #[.string s, .string ⟨#[32]⟩] w fun e w' => e = .returned (.int .i64 (Lib.indexByte s.data.toList 32)) ∧ w' = w := by
  go_enter Tryz.func61, Tryz.ntmps61
  go_wp2_with fail
  refine (slIndex1 s w).mono ?_
  rintro e w' ⟨rfl, rfl⟩
  go_wp2
  go_ret
  exact ⟨rfl, rfl⟩
/-- What Cut tells of a row of n bytes whose line has i bytes. -/
def cutRow (g o n c : Nat) (xs : List Int) : Value := .slice (some ⟨g, o, none⟩) (lineOf xs).length c
set_option maxHeartbeats 2000000 in
set_option maxRecDepth 100000 in
theorem bCut1 (g o c b2 : Nat) (xs : List Int) (hu : isU8 xs = true) (hb : xs.length < 4611686018427387904) (hcap : xs.length ≤ c) (w : World) (hc : ∀ i, i < xs.length → w.cell? ⟨g, o + i, none⟩ = some (.int .u8 (xs.getD i 0))) (hc2 : w.cell? ⟨b2, 0, none⟩ = some (.int .u8 10)) :
    Calls Tryz.prog 42 #[.slice (some ⟨g, o, none⟩) xs.length c, .slice (some ⟨b2, 0, none⟩) 1 1] w fun e w' => (∃ v u, e = .returned (.tuple #[.slice (some ⟨g, o, none⟩) (lineOf xs).length c, v, u])) ∧ Below w.heap.size w w' := by
  have hcon := Aside0.mk (bIndex1 ⟨g, o, none⟩ xs.length c b2 0 1 xs 10 w rfl (fun i hi => by
    have e' : (⟨g, o, none⟩ : Addr).add i = ⟨g, o + i, none⟩ := by
      unfold Addr.add
      split <;> simp_all
    rw [e']
    exact hc i hi) hc2)
  clear hc hc2
  rcases idx_line xs hu with ⟨h1, h2⟩ | ⟨h1, h2⟩
  · rw [h1] at hcon
    rw [h2]
    go_enter Tryz.func42, Tryz.ntmps42
    go_wp2_with fail
    refine hcon.out.mono ?_
    rintro e w' ⟨rfl, rfl⟩
    go_wp2
    refine bodyPost_ret (results_tmp3 rfl _ _ _) rfl ?_
    exact ⟨⟨_, _, rfl⟩, Below.refl _ _⟩
  · rw [h1] at hcon
    generalize lineOf xs = L at hcon h2 ⊢
    have q0 : (0 : Int) ≤ (L.length : Int) := by omega
    have q1 : decide ((0 : Int) ≤ (L.length : Int)) = true := decide_eq_true q0
    have q2 : L.length ≤ xs.length := by omega
    have q3 : L.length + 1 ≤ xs.length := by omega
    have q4 : L.length ≤ c := by omega
    have q5 : L.length + 1 ≤ c := by omega
    go_enter Tryz.func42, Tryz.ntmps42
    go_wp2_with fail
    refine hcon.out.mono ?_
    rintro e w' ⟨rfl, rfl⟩
    go_wp2
    go_quiet (fail)
    all_goals go_wp2
    all_goals refine bodyPost_ret (results_tmp3 rfl _ _ _) rfl ?_
    all_goals exact ⟨⟨_, _, rfl⟩, pw_below_drewN (Below.refl _ _) _⟩
end Go.Proofs.YtoenklncjbcgiaaGreatDoor.P

/- token.cut: the iterator over a text's lines. -/
namespace Go.Proofs.YtoenklncjbcgiaaGreatDoor.P
open Go.RowKit Go.Proofs.YtoenklncjbcgiaaGreatDoorW.PrintWords
set_option linter.unusedVariables false
set_option linter.unusedSimpArgs false
attribute [local go_sem] Oper.semAt_some

theorem cutF_nil (f p : Nat) : cutF f p [] = [] := by
  cases f <;> rfl
theorem cutF_cons (f p : Nat) (l : List Int) (h : l ≠ []) : cutF (f + 1) p l = (p, lineOf l) :: cutF f (p + (lineOf l).length + 1) (l.drop ((lineOf l).length + 1)) := by
  show (if l.isEmpty = true then [] else _) = _
  rw [if_neg (by simpa using h)]
/-- The two blocks that the iterator reads are kept. -/
def Two (B1 B2 : Nat) (A B : World) : Prop := B.heap[B1]? = A.heap[B1]? ∧ B.heap[B2]? = A.heap[B2]?
theorem Two.trans {B1 B2 : Nat} {A B C : World} (h : Two B1 B2 A B) (k : Two B1 B2 B C) : Two B1 B2 A C := ⟨k.1.trans h.1, k.2.trans h.2⟩
theorem Two.below {B1 B2 : Nat} {A B C : World} (h : Two B1 B2 A B) (l1 : B1 < A.heap.size) (l2 : B2 < A.heap.size) (hb : Below B.heap.size B C) : Two B1 B2 A C :=
  ⟨(hb.block B1 (by have := h.1.trans (Array.getElem?_eq_getElem l1); exact (Array.getElem?_eq_some_iff.1 this).1)).trans h.1, (hb.block B2 (by have := h.2.trans (Array.getElem?_eq_getElem l2); exact (Array.getElem?_eq_some_iff.1 this).1)).trans h.2⟩
/-- What a line's value is. -/
def lineV (g o cap : Nat) (x : Nat × List Int) : Array Value := #[.int .i64 (x.1 : Int), .slice (some ⟨g, o + x.1, none⟩) x.2.length (cap - x.1)]
set_option maxRecDepth 100000 in
set_option maxHeartbeats 2000000 in
theorem cut1_in (l Bb g o cap : Nat) (bs : List Int) (hu : isU8 bs = true) (hlen : bs.length ≤ 67108864) (hcap : bs.length ≤ cap) (J Jx : List (Nat × List Int) → World → Prop)
    (hJ : ∀ s A B, J s A → Below A.heap.size A B → J s B)
    (hY : ∀ pre x W1, J pre W1 → (pre ++ [x]) <+: cutF (bs.length + 1) 0 bs → YieldAt Fence.wide 0 Tryz.prog l (lineV g o cap x) W1 fun e W' =>
      (e = .returned (.bool true) ∧ J (pre ++ [x]) W' ∧ Two Bb g W1 W') ∨ (e = .returned (.bool false) ∧ Jx (pre ++ [x]) W'))
    (W : World) (hc : W.cell? ⟨Bb, 0, none⟩ = some (.slice (some ⟨g, o, none⟩) bs.length cap)) (hcs : ∀ i, i < bs.length → W.cell? ⟨g, o + i, none⟩ = some (.int .u8 (bs.getD i 0))) (hg : g < W.heap.size) (h0 : J [] W) :
    CallsIn Fence.wide 0 Tryz.prog 41 #[.func (.yield l) #[] #[], .pointer (some ⟨Bb, 0, none⟩)] W (IterEnds (fun xs => xs = cutF (bs.length + 1) 0 bs) (fun pre => pre <+: cutF (bs.length + 1) 0 bs) J Jx) := by
  have hBb : Bb < W.heap.size := World.block_lt_of_cell? W _ hc
  have HJ := Aside0.mk hJ
  have HY := Aside0.mk hY
  have HU := Aside0.mk hu
  have HCS := Aside0.mk hcs
  have HC := Aside0.mk hc
  clear hJ hY hu hcs hc
  refine callsIn_of_wp Tryz.func41 rfl trivial ?_ rfl
  simp only [Tryz.ntmps41, List.size_toArray, List.length_cons, List.length_nil, Nat.reduceAdd, Nat.reduceSub, Array.replicate_succ, Array.replicate_zero, List.push_toArray, List.append_toArray, List.nil_append, List.cons_append]
  gi_wp2
  gi_loopw [3] (fun v3 wr => ∃ (pre : List (Nat × List Int)) (k f : Nat), v3 = .int .i64 k ∧ Aside0 (cutF (bs.length + 1) 0 bs = pre ++ cutF f k (bs.drop k)) ∧ Aside0 (bs.length + 1 ≤ k + f ∧ k ≤ bs.length + 1) ∧ Aside0 (J pre wr) ∧ Aside0 (Two Bb g W wr))
    (fun v3 _ => bs.length + 1 - (intOf v3).toNat)
  case atStart => exact ⟨[], 0, bs.length + 1, rfl, ⟨by simp⟩, ⟨by omega⟩, ⟨h0⟩, ⟨rfl, rfl⟩⟩
  case round =>
    obtain ⟨pre, k, f, rfl, hcut, hf, hj, hB⟩ := hrel
    have hcw : wr.cell? ⟨Bb, 0, none⟩ = some (.slice (some ⟨g, o, none⟩) bs.length cap) := (World.cell?_of_block (a := ⟨Bb, 0, none⟩) hB.out.1).trans HC.out
    by_cases c : k < bs.length
    · obtain ⟨f, rfl⟩ : ∃ m, f = m + 1 := ⟨f - 1, by have := hf.out; omega⟩
      have hne : bs.drop k ≠ [] := by
        intro e
        have := congrArg List.length e
        simp at this
        omega
      have e1 := cutF_cons f k (bs.drop k) hne
      obtain ⟨L, hL⟩ : ∃ L, Aside0 (lineOf (bs.drop k) = L) := ⟨_, ⟨rfl⟩⟩
      rw [hL.out, List.drop_drop] at e1
      have hpre : (pre ++ [(k, L)]) <+: cutF (bs.length + 1) 0 bs := by
        rw [hcut.out, e1]
        exact ⟨_, List.append_assoc _ _ _⟩
      have hLl : L.length ≤ bs.length - k := by
        have := lineOf_le (bs.drop k)
        rw [hL.out, List.length_drop] at this
        exact this
      have hcon := fun (W2 : World) (b2 : Nat) (h : Two Bb g W W2) (h2 : W2.cell? ⟨b2, 0, none⟩ = some (.int .u8 10)) => bCut1 g (o + k) (cap - k) b2 (bs.drop k) (isU8_drop HU.out k) (by simp; omega) (by simp; omega) W2 (fun i hi => by
        have hi' : i < bs.length - k := by simpa using hi
        have := (World.cell?_of_block (a := ⟨g, o + (k + i), none⟩) h.2).trans (HCS.out (k + i) (by omega))
        rw [show o + k + i = o + (k + i) by omega, this]
        simp [List.getD]) h2
      rw [hL.out, List.length_drop] at hcon
      have HCON := Aside0.mk hcon
      have HE := Aside0.mk e1
      have HP := Aside0.mk hpre
      clear hcon e1 hpre hne
      have p1 : (k : Int) < (bs.length : Int) := by omega
      have p2 : (0 : Int) ≤ (k : Int) := by omega
      have q1 := eq_true p1
      have q2 : decide ((k : Int) < (bs.length : Int)) = true := decide_eq_true p1
      have q3 : k ≤ bs.length := by omega
      have q4 : ¬ cap = k := by omega
      have q5 : k ≤ cap := by omega
      gi_wp2_with fail
      refine ⟨trivial, rfl, (callsIn_wide.2 (HCON.out _ wr.heap.size (hB.out.below hBb hg ((Below.refl _ wr).alloc (Nat.le_refl _) _)) (blk_cell (blk_new wr _) 0))).mono ?_⟩
      rintro e W2 ⟨⟨v, u, rfl⟩, hb2⟩
      have hb3 : Below wr.heap.size wr W2 := ((Below.refl _ wr).alloc (Nat.le_refl _) _).trans (hb2.mono (by simp))
      obtain ⟨fn, tmps, assign, body, hy, hR⟩ := HY.out pre (k, L) W2 (HJ.out _ _ _ hj.out hb3) HP.out
      have HB2 := Aside0.mk (hB.out.below hBb hg hb3)
      clear hb2 hb3 hcw HCON
      dsimp only [lineV] at hy
      gi_wp2
      refine ⟨rfl, hR.mono ?_⟩
      rintro e W3 (⟨rfl, hJ3, hk3⟩ | ⟨rfl, hJx3⟩)
      · have HJ3 := Aside0.mk hJ3
        have HB3 := Aside0.mk (HB2.out.trans hk3)
        clear hJ3 hk3
        gi_wp2
        go_roundw
        case rel => exact ⟨pre ++ [(k, L)], k + L.length + 1, f, by go_num, ⟨by rw [hcut.out, HE.out, List.append_assoc, ← Nat.add_assoc]; rfl⟩, ⟨by have := hf.out; omega⟩, HJ3, HB3⟩
        case measure => simp [intOf]; omega
      · gi_wp2
        refine bodyPost_ret (results_none rfl _ _ _) rfl ?_
        exact ⟨⟨_, rfl⟩, .inr ⟨pre ++ [(k, L)], HP.out, hJx3⟩⟩
    · have hd : bs.drop k = [] := List.drop_eq_nil_of_le (by omega)
      have p1 : decide ((k : Int) < (bs.length : Int)) = false := decide_eq_false (by omega)
      have h2 := hcut.out
      rw [hd, cutF_nil, List.append_nil] at h2
      have H2 := Aside0.mk h2
      clear hd h2
      gi_wp2
      go_end0
      exact ⟨⟨_, rfl⟩, .inl ⟨pre, H2.out.symm, hj.out⟩⟩
set_option maxRecDepth 100000 in
set_option maxHeartbeats 1000000 in
theorem cut1_nil (l Bb : Nat) (A : Option Addr) (cap : Nat) (J : List (Nat × List Int) → World → Prop) (W : World) (hc : W.cell? ⟨Bb, 0, none⟩ = some (.slice A 0 cap)) (h0 : J [] W) :
    CallsIn Fence.wide 0 Tryz.prog 41 #[.func (.yield l) #[] #[], .pointer (some ⟨Bb, 0, none⟩)] W fun e W' => (∃ v, e = .returned v) ∧ J [] W' := by
  have H0 := Aside0.mk h0
  clear h0
  refine callsIn_of_wp Tryz.func41 rfl trivial ?_ rfl
  simp only [Tryz.ntmps41, List.size_toArray, List.length_cons, List.length_nil, Nat.reduceAdd, Nat.reduceSub, Array.replicate_succ, Array.replicate_zero, List.push_toArray, List.append_toArray, List.nil_append, List.cons_append]
  gi_wp2
  gi_loopw [3] (fun i wr => i = .int .i64 0 ∧ Aside0 (wr.cell? ⟨Bb, 0, none⟩ = some (.slice A 0 cap)) ∧ Aside0 (J [] wr)) (fun _ _ => 0)
  case atStart => exact ⟨rfl, ⟨hc⟩, H0⟩
  case round =>
    obtain ⟨rfl, hc, hJs⟩ := hrel
    have hc := hc.out
    gi_wp2
    go_end0
    exact ⟨⟨_, rfl⟩, hJs.out⟩
set_option maxHeartbeats 1000000 in
theorem cut_in (A : Option Addr) (n c : Nat) (w : World) : CallsIn Fence.wide 0 Tryz.prog 28 #[.slice A n c] w fun e w' =>
    e = .returned (.func (.func 41) #[] #[.pointer (some ⟨w.heap.size, 0, none⟩)]) ∧ w' = w.alloc (.cells #[.slice A n c] 55) := by
  refine callsIn_of_wp Tryz.func28 rfl trivial ?_ rfl
  simp only [Tryz.ntmps28, List.size_toArray, List.length_cons, List.length_nil, Nat.reduceAdd, Nat.reduceSub, Array.replicate_succ, Array.replicate_zero, List.push_toArray, List.append_toArray, List.nil_append, List.cons_append]
  gi_wp2
  go_ret
  exact ⟨rfl, rfl⟩
/-- The iterator's contract: A's row holds bs, in a world w whose heap has the box. -/
theorem cut_seq (Bb g o cap : Nat) (bs : List Int) (hu : isU8 bs = true) (hlen : bs.length ≤ 67108864) (hcap : bs.length ≤ cap) (w : World) (hBb : Bb < w.heap.size) (hg : g < w.heap.size)
    (hc : w.cell? ⟨Bb, 0, none⟩ = some (.slice (some ⟨g, o, none⟩) bs.length cap)) (hcs : ∀ i, i < bs.length → w.cell? ⟨g, o + i, none⟩ = some (.int .u8 (bs.getD i 0))) :
    SeqT Tryz.prog 41 #[.pointer (some ⟨Bb, 0, none⟩)] (lineV g o cap) (Two Bb g) (fun A B => Below A.heap.size A B) (fun pre x => (pre ++ [x]) <+: cutF (bs.length + 1) 0 bs) (fun xs => xs = cutF (bs.length + 1) 0 bs) (fun pre => pre <+: cutF (bs.length + 1) 0 bs) w :=
  fun l J Jx W hW hJ _ hY h0 => cut1_in l Bb g o cap bs hu hlen hcap J Jx hJ hY W ((hW.cell (p := ⟨Bb, 0, none⟩) hBb).trans hc) (fun i hi => (hW.cell (p := ⟨g, o + i, none⟩) hg).trans (hcs i hi)) (Nat.lt_of_lt_of_le hg hW.size) h0
theorem cut_seq_nil (Bb g o cap0 : Nat) (A : Option Addr) (cap : Nat) (w : World) (hBb : Bb < w.heap.size) (hc : w.cell? ⟨Bb, 0, none⟩ = some (.slice A 0 cap)) :
    SeqT Tryz.prog 41 #[.pointer (some ⟨Bb, 0, none⟩)] (lineV g o cap0) (Two Bb g) (fun A B => Below A.heap.size A B) (fun pre x => (pre ++ [x]) <+: cutF 1 0 []) (fun xs => xs = cutF 1 0 []) (fun pre => pre <+: cutF 1 0 []) w :=
  fun l J Jx W hW hJ _ hY h0 => (cut1_nil l Bb A cap J W ((hW.cell (p := ⟨Bb, 0, none⟩) hBb).trans hc) h0).mono fun e W' ⟨he, hj⟩ => ⟨he, .inl ⟨[], rfl, hj⟩⟩
end Go.Proofs.YtoenklncjbcgiaaGreatDoor.P

/- strings.SplitSeq at one space: the iterator over what stands between spaces. -/
namespace Go.Proofs.YtoenklncjbcgiaaGreatDoor.P
open Go.RowKit Go.Proofs.YtoenklncjbcgiaaGreatDoorW.PrintWords
set_option linter.unusedVariables false
set_option linter.unusedSimpArgs false
attribute [local go_sem] Oper.semAt_some

theorem bytes_ext {a b : ByteArray} (h : a.data.toList = b.data.toList) : a = b := by
  cases a
  cases b
  exact congrArg ByteArray.mk (Array.toList_inj.1 h)
theorem ext_take (s : ByteArray) (i : Nat) : (s.extract 0 i).data.toList = s.data.toList.take i := by
  rw [Lib.extract_data]
  simp
theorem ext_drop (s : ByteArray) (i : Nat) : (s.extract i s.size).data.toList = s.data.toList.drop i := by
  exact Lib.extract_to_end s i
theorem piecesB_idx (s : ByteArray) : (Lib.indexByte s.data.toList 32 = -1 ∧ piecesB s = [s]) ∨ ∃ i : Nat, Lib.indexByte s.data.toList 32 = (i : Int) ∧ i < s.size ∧ piecesB s = s.extract 0 i :: piecesB (s.extract (i + 1) s.size) := by
  unfold piecesB
  rcases pieces_idx 32 s.data.toList with ⟨h1, h2⟩ | ⟨i, h1, h2, h3⟩
  · refine .inl ⟨h1, ?_⟩
    rw [h2]
    rfl
  · refine .inr ⟨i, h1, h2, ?_⟩
    rw [h3, List.map_cons, ext_drop]
    congr 1
    exact bytes_ext (by rw [ext_take])
/-- How much is still to come, read off the memory. -/
def strM (Bs : Nat) (wr : World) : Nat := match wr.cell? ⟨Bs, 0, none⟩ with
  | some (.string s) => s.size + 1
  | _ => 0
/-- The three boxes are kept. -/
def Boxes3 (B1 B2 B3 : Nat) (A B : World) : Prop := B.heap[B1]? = A.heap[B1]? ∧ B.heap[B2]? = A.heap[B2]? ∧ B.heap[B3]? = A.heap[B3]?
set_option maxRecDepth 100000 in
set_option maxHeartbeats 2000000 in
theorem spl1_in (l B1 B2 B3 : Nat) (h12 : B1 ≠ B2) (h32 : B3 ≠ B2) (s0 : ByteArray) (hs0 : s0.size < 4611686018427387904) (J Jx : List ByteArray → World → Prop) (hJ : ∀ s (A : World) v, J s A → J s (A.setCell ⟨B2, 0, none⟩ v))
    (hY : ∀ pre x W1, J pre W1 → (pre ++ [x]) <+: piecesB s0 → YieldAt Fence.wide 0 Tryz.prog l #[.string x] W1 fun e W' =>
      (e = .returned (.bool true) ∧ J (pre ++ [x]) W' ∧ Boxes3 B1 B2 B3 W1 W') ∨ (e = .returned (.bool false) ∧ Jx (pre ++ [x]) W'))
    (W : World) (hc1 : W.cell? ⟨B1, 0, none⟩ = some (.string ⟨#[32]⟩)) (hc2 : W.cell? ⟨B2, 0, none⟩ = some (.string s0)) (hz2 : W.frozen? ⟨B2, 0, none⟩ = false) (hc3 : W.cell? ⟨B3, 0, none⟩ = some (.int .i64 0)) (h0 : J [] W) :
    CallsIn Fence.wide 0 Tryz.prog 59 #[.func (.yield l) #[] #[], .pointer (some ⟨B1, 0, none⟩), .pointer (some ⟨B2, 0, none⟩), .pointer (some ⟨B3, 0, none⟩)] W (IterEnds (fun xs => xs = piecesB s0) (fun pre => pre <+: piecesB s0) J Jx) := by
  have HJ := Aside0.mk hJ
  have HY := Aside0.mk hY
  have H0 := Aside0.mk h0
  clear hJ hY h0
  refine callsIn_of_wp Tryz.func59 rfl trivial ?_ rfl
  simp only [Tryz.ntmps59, List.size_toArray, List.length_cons, List.length_nil, Nat.reduceAdd, Nat.reduceSub, Array.replicate_succ, Array.replicate_zero, List.push_toArray, List.append_toArray, List.nil_append, List.cons_append]
  gi_wp2
  gi_loopw [7] (fun _ wr => ∃ (pre : List ByteArray) (s : ByteArray), Aside0 (piecesB s0 = pre ++ piecesB s) ∧ Aside0 (s.size ≤ s0.size) ∧ Aside0 (J pre wr) ∧ wr.cell? ⟨B1, 0, none⟩ = some (.string ⟨#[32]⟩) ∧ wr.cell? ⟨B2, 0, none⟩ = some (.string s) ∧ wr.frozen? ⟨B2, 0, none⟩ = false ∧ wr.cell? ⟨B3, 0, none⟩ = some (.int .i64 0))
    (fun _ wr => strM B2 wr)
  case atStart => exact ⟨[], s0, ⟨rfl⟩, ⟨Nat.le_refl _⟩, H0, hc1, hc2, hz2, hc3⟩
  case round =>
    obtain ⟨pre, s, hp, hs, hj, k1, k2, kz, k3⟩ := hrel
    have hm : strM B2 wr = s.size + 1 := by
      unfold strM
      rw [k2]
    have HM := Aside0.mk hm
    clear hm
    have hszb : s.size < 4611686018427387904 := Nat.lt_of_le_of_lt hs.out hs0
    have hix := Aside0.mk (sIndex1 s wr)
    rcases piecesB_idx s with ⟨h1, h2⟩ | ⟨i, h1, hi, h2⟩
    · rw [h1] at hix
      have hpre : (pre ++ [s]) <+: piecesB s0 := by
        rw [hp.out, h2]
        exact List.prefix_refl _
      obtain ⟨fn, tmps, assign, body, hy, hR⟩ := HY.out pre s wr hj.out hpre
      have HP := Aside0.mk hpre
      have H2 := Aside0.mk h2
      clear h1 h2 hpre
      gi_wp2_with fail
      refine ⟨trivial, rfl, (callsIn_wide.2 hix.out).mono ?_⟩
      rintro e W2 ⟨rfl, rfl⟩
      gi_wp2
      refine ⟨rfl, hR.mono ?_⟩
      rintro e W3 (⟨rfl, hJ3, hk3⟩ | ⟨rfl, hJx3⟩)
      · have HJ3 := Aside0.mk hJ3
        clear hJ3 hk3
        gi_wp2
        go_end0
        exact ⟨⟨_, rfl⟩, .inl ⟨_, by rw [hp.out, H2.out], HJ3.out⟩⟩
      · have HJ3 := Aside0.mk hJx3
        clear hJx3
        gi_wp2
        go_end0
        exact ⟨⟨_, rfl⟩, .inr ⟨_, HP.out, HJ3.out⟩⟩
    · rw [h1] at hix
      have hpre : (pre ++ [s.extract 0 i]) <+: piecesB s0 := by
        rw [hp.out, h2]
        exact ⟨_, List.append_assoc _ _ _⟩
      obtain ⟨fn, tmps, assign, body, hy, hR⟩ := HY.out pre (s.extract 0 i) wr hj.out hpre
      have HP := Aside0.mk hpre
      have H2 := Aside0.mk h2
      clear h1 h2 hpre
      have q0 : ¬ ((i : Int) < 0) := by omega
      have q1 : decide ((i : Int) < 0) = false := decide_eq_false q0
      have q2 : i ≤ s.size := by omega
      have q3 : i + 1 ≤ s.size := by omega
      gi_wp2_with fail
      refine ⟨trivial, rfl, (callsIn_wide.2 hix.out).mono ?_⟩
      rintro e W2 ⟨rfl, rfl⟩
      gi_wp2
      refine ⟨rfl, hR.mono ?_⟩
      rintro e W3 (⟨rfl, hJ3, hk3⟩ | ⟨rfl, hJx3⟩)
      · have k1' : W3.cell? ⟨B1, 0, none⟩ = some (.string ⟨#[32]⟩) := (World.cell?_of_block (a := ⟨B1, 0, none⟩) hk3.1).trans k1
        have k2' : W3.cell? ⟨B2, 0, none⟩ = some (.string s) := (World.cell?_of_block (a := ⟨B2, 0, none⟩) hk3.2.1).trans k2
        have kz' : W3.frozen? ⟨B2, 0, none⟩ = false := (World.frozen?_of_block (a := ⟨B2, 0, none⟩) hk3.2.1).trans kz
        have k3' : W3.cell? ⟨B3, 0, none⟩ = some (.int .i64 0) := (World.cell?_of_block (a := ⟨B3, 0, none⟩) hk3.2.2).trans k3
        have HJ3 := Aside0.mk hJ3
        clear hJ3 hk3
        gi_wp2
        have hset : (W3.setCell ⟨B2, 0, none⟩ (.string (s.extract (i + 1) s.size))).cell? ⟨B2, 0, none⟩ = some (.string (s.extract (i + 1) s.size)) := World.cell?_setCell_same' _ _ _ (by rw [k2']; rfl)
        have hsz : (s.extract (i + 1) s.size).size = s.size - (i + 1) := by
          rw [ByteArray.size_extract]
          omega
        go_roundw
        case rel => exact ⟨pre ++ [s.extract 0 i], s.extract (i + 1) s.size, ⟨by rw [hp.out, H2.out, List.append_assoc]; rfl⟩, ⟨by have := hs.out; rw [hsz]; omega⟩, ⟨HJ.out _ _ _ HJ3.out⟩, (World.cell?_setCell_other W3 _ _ _ (fun e => h12 (congrArg Addr.block e).symm)).trans k1', hset, by rw [World.frozen?_setCell]; exact kz', (World.cell?_setCell_other W3 _ _ _ (fun e => h32 (congrArg Addr.block e).symm)).trans k3'⟩
        case measure =>
          rw [HM.out]
          unfold strM
          rw [hset]
          simp only [hsz]
          omega
      · have HJ3 := Aside0.mk hJx3
        clear hJx3
        gi_wp2
        refine bodyPost_ret (results_none rfl _ _ _) rfl ?_
        exact ⟨⟨_, rfl⟩, .inr ⟨_, HP.out, HJ3.out⟩⟩
set_option maxHeartbeats 1000000 in
theorem splitSeq_in (s : ByteArray) (w : World) : CallsIn Fence.wide 0 Tryz.prog 44 #[.string s, .string ⟨#[32]⟩, .int .i64 0] w fun e w' =>
    e = .returned (.func (.func 59) #[] #[.pointer (some ⟨w.heap.size + 1, 0, none⟩), .pointer (some ⟨w.heap.size, 0, none⟩), .pointer (some ⟨w.heap.size + 1 + 1, 0, none⟩)]) ∧ w' = ((w.alloc (.cells #[.string s] 9)).alloc (.cells #[.string ⟨#[32]⟩] 9)).alloc (.cells #[.int .i64 0] 3) := by
  refine callsIn_of_wp Tryz.func44 rfl trivial ?_ rfl
  simp only [Tryz.ntmps44, List.size_toArray, List.length_cons, List.length_nil, Nat.reduceAdd, Nat.reduceSub, Array.replicate_succ, Array.replicate_zero, List.push_toArray, List.append_toArray, List.nil_append, List.cons_append]
  gi_wp2
  go_ret
  exact ⟨rfl, rfl⟩
set_option maxHeartbeats 1000000 in
theorem SplitSeq_in (s : ByteArray) (w : World) : CallsIn Fence.wide 0 Tryz.prog 30 #[.string s, .string ⟨#[32]⟩] w fun e w' =>
    e = .returned (.func (.func 59) #[] #[.pointer (some ⟨w.heap.size + 1, 0, none⟩), .pointer (some ⟨w.heap.size, 0, none⟩), .pointer (some ⟨w.heap.size + 1 + 1, 0, none⟩)]) ∧ w' = ((w.alloc (.cells #[.string s] 9)).alloc (.cells #[.string ⟨#[32]⟩] 9)).alloc (.cells #[.int .i64 0] 3) := by
  refine callsIn_of_wp Tryz.func30 rfl trivial ?_ rfl
  simp only [Tryz.ntmps30, List.size_toArray, List.length_cons, List.length_nil, Nat.reduceAdd, Nat.reduceSub, Array.replicate_succ, Array.replicate_zero, List.push_toArray, List.append_toArray, List.nil_append, List.cons_append]
  gi_wp2_with fail
  refine ⟨trivial, rfl, (splitSeq_in s w).mono ?_⟩
  rintro e w2 ⟨rfl, rfl⟩
  gi_wp2
  go_ret
  exact ⟨rfl, rfl⟩
/-- The iterator's contract. -/
theorem spl_seq (B1 B2 B3 : Nat) (h12 : B1 ≠ B2) (h32 : B3 ≠ B2) (s0 : ByteArray) (hs0 : s0.size < 4611686018427387904) (w : World) (l1 : B1 < w.heap.size) (l2 : B2 < w.heap.size) (l3 : B3 < w.heap.size)
    (hc1 : w.cell? ⟨B1, 0, none⟩ = some (.string ⟨#[32]⟩)) (hc2 : w.cell? ⟨B2, 0, none⟩ = some (.string s0)) (hz2 : w.frozen? ⟨B2, 0, none⟩ = false) (hc3 : w.cell? ⟨B3, 0, none⟩ = some (.int .i64 0)) :
    SeqT Tryz.prog 59 #[.pointer (some ⟨B1, 0, none⟩), .pointer (some ⟨B2, 0, none⟩), .pointer (some ⟨B3, 0, none⟩)] (fun x : ByteArray => #[.string x]) (Boxes3 B1 B2 B3) (fun A B => ∃ v, B = A.setCell ⟨B2, 0, none⟩ v) (fun pre x => (pre ++ [x]) <+: piecesB s0) (fun xs => xs = piecesB s0) (fun pre => pre <+: piecesB s0) w :=
  fun l J Jx W hW hJ _ hY h0 => spl1_in l B1 B2 B3 h12 h32 s0 hs0 J Jx (fun s A v h => hJ s A _ h ⟨v, rfl⟩) hY W ((hW.cell (p := ⟨B1, 0, none⟩) l1).trans hc1) ((hW.cell (p := ⟨B2, 0, none⟩) l2).trans hc2) ((hW.frozen (p := ⟨B2, 0, none⟩) l2).trans hz2) ((hW.cell (p := ⟨B3, 0, none⟩) l3).trans hc3) h0
end Go.Proofs.YtoenklncjbcgiaaGreatDoor.P

/- Appends within a fence: rows of elements that may lead to rows. Over any program. -/
namespace Go.Proofs.YtoenklncjbcgiaaGreatDoor.P
open Go.RowKit Go.Proofs.YtoenklncjbcgiaaGreatDoorW.PrintWords Go.Proofs.YtoenklncjbcgiaaGreatDoorW.PrintLast Go.Proofs.YtoenklncjbcgiaaGreatDoorW.PrintMore
set_option linter.unusedVariables false
section
variable {F : Fence} {nF : Nat} {P : Program} {ops : Array Oper} {rest : List Oper} {o : Oper} {a : Act} {Q : Exit → Act → World → Prop} {α : Type}
theorem in_append_cells {w0 W : World} (base : Nat) (hgd : o.guard = none) (s x : Operand) (t e : TypeId) (z : Value) (size bytes : Nat)
    (ho : o.op = .call { callee := .builtin .append, args := #[s, x], argTypes := #[t, t] })
    (ht : P.underlying t = some (.slice e)) (hinfo : (P.info? e).map (fun i => (i.zero, i.size, i.bytes)) = some (some z, size, bytes)) (hz : z.cells.size = size) (hs0 : 0 < size) (hb0 : 0 < bytes)
    (v : Value) (n : Nat) (xs ys : List Value) (hs : a.eval s = v) (hx : a.eval x = .slice (some ⟨W.heap.size, 0, none⟩) 1 1) (hys : ys.length = size) (h1 : ∀ u ∈ ys, u.oneCell' = true)
    (HO : W.ownsRow base e size v n xs) (HB : Below base w0 W) (hbase : base ≤ W.heap.size) (hl : (n + 1) * bytes ≤ 140737488355328)
    (h : ∀ v1 w1, w1.ownsRow base e size v1 (n + 1) (xs ++ ys) → Below base w0 w1 → W.grownBy w1 v.ownBlock → (v1.ownBlock = v.ownBlock ∨ ∃ b, v1.ownBlock = some b ∧ W.heap.size ≤ b) → wpListIn F nF P ops Q rest (a.put o.dst v1) w1) :
    wpListIn F nF P ops Q (o :: rest) a (W.alloc (.cells ys.toArray e)) := by
  obtain ⟨i0, hi, hzz⟩ := Option.map_eq_some_iff.1 hinfo
  simp only [Prod.mk.injEq] at hzz
  obtain ⟨hz0, hz1, hz2⟩ := hzz
  have hlen : n + 1 ≤ 140737488355328 := Nat.le_trans (Nat.le_mul_of_pos_right _ hb0) hl
  refine wpListIn_append_own_at (W.alloc (.cells ys.toArray e)) hgd s x t ho base e i0 z size bytes ht hi hz0 hz1 hz2 hz hs0 v n xs hs (HO.alloc _) ⟨W.heap.size, 0, none⟩ 1 1 ys hx (by rw [hys]; simp)
    (by simpa using World.news_of_block (cs := ys.toArray) (t := e) (fr := (0, 0)) (heap_alloc_new W (.cells ys.toArray e))) h1 (by simp only [maxLen]; omega) hl (by simp; omega) ?_
  intro v1 w1 hown hg _ hat
  refine h v1 w1 hown ((HB.alloc hbase _).grown hg (by simp; omega) (own_base HO)) (World.grownBy.trans (World.grownBy_alloc W _ _) hg) ?_
  rcases hat with hat | hat
  · exact .inl hat
  · exact .inr ⟨_, hat, by simp⟩
theorem in_R_append (d : Kd α) {w0 W : World} (base : Nat) (hgd : o.guard = none) (s x : Operand) (t e : TypeId) (z : Value) (bytes : Nat)
    (ho : o.op = .call { callee := .builtin .append, args := #[s, x], argTypes := #[t, t] })
    (ht : P.underlying t = some (.slice e)) (hinfo : (P.info? e).map (fun i => (i.zero, i.size, i.bytes)) = some (some z, d.sz, bytes)) (hz : z.cells.size = d.sz) (hs0 : 0 < d.sz) (hb0 : 0 < bytes)
    (v : Value) (xs : List α) (p : α) (cs : List Value) (ok okp : Nat → Prop) (hs : a.eval s = v) (hx : a.eval x = .slice (some ⟨W.heap.size, 0, none⟩) 1 1) (hp : d.M W base okp p cs) (hokp : ∀ k, okp k → ok k ∧ some k ≠ v.ownBlock) (hfresh : ∀ k, W.heap.size ≤ k → ok k)
    (HO : d.R e W base ok v xs) (HB : Below base w0 W) (hbase : base ≤ W.heap.size) (hl : (xs.length + 1) * bytes ≤ 140737488355328)
    (h : ∀ v1 w1, d.R e w1 base ok v1 (xs ++ [p]) → Below base w0 w1 → W.grownBy w1 v.ownBlock → (v1.ownBlock = v.ownBlock ∨ ∃ b, v1.ownBlock = some b ∧ W.heap.size ≤ b) → wpListIn F nF P ops Q rest (a.put o.dst v1) w1) :
    wpListIn F nF P ops Q (o :: rest) a (W.alloc (.cells cs.toArray e)) := by
  obtain ⟨h0, inner, hown, hr⟩ := HO
  refine in_append_cells base hgd s x t e z d.sz bytes ho ht hinfo hz hs0 hb0 v xs.length inner cs hs hx (d.K_len (d.K_of_M hp)) (d.K_one (d.K_of_M hp)) hown HB hbase hl ?_
  intro v1 w1 hown1 hb1 hg1 hat1
  exact h v1 w1 (Kd.R_appended h0 hr hp hokp hfresh hown1 hg1 hat1) hb1 hg1 hat1
theorem in_S_append (d : Kd α) {w0 W : World} (base : Nat) (hgd : o.guard = none) (s x : Operand) (t e : TypeId) (z : Value) (bytes : Nat)
    (ho : o.op = .call { callee := .builtin .append, args := #[s, x], argTypes := #[t, t] })
    (ht : P.underlying t = some (.slice e)) (hinfo : (P.info? e).map (fun i => (i.zero, i.size, i.bytes)) = some (some z, d.sz, bytes)) (hz : z.cells.size = d.sz) (hs0 : 0 < d.sz) (hb0 : 0 < bytes)
    (v : Value) (xs : List α) (p : α) (cs : List Value) (ok okp : Nat → Prop) (hs : a.eval s = v) (hx : a.eval x = .slice (some ⟨W.heap.size, 0, none⟩) 1 1) (hp : d.M W base okp p cs) (hokp : ∀ k, okp k → ok k ∧ some k ≠ v.ownBlock) (hfresh : ∀ k, W.heap.size ≤ k → ok k)
    (HO : Kd.S d e W base (fun k => ok k ∧ ¬ okp k) v xs) (HB : Below base w0 W) (hbase : base ≤ W.heap.size) (hl : (xs.length + 1) * bytes ≤ 140737488355328)
    (h : ∀ v1 w1, Kd.S d e w1 base ok v1 (xs ++ [p]) → Below base w0 w1 → W.grownBy w1 v.ownBlock → (v1.ownBlock = v.ownBlock ∨ ∃ b, v1.ownBlock = some b ∧ W.heap.size ≤ b) → wpListIn F nF P ops Q rest (a.put o.dst v1) w1) :
    wpListIn F nF P ops Q (o :: rest) a (W.alloc (.cells cs.toArray e)) := by
  obtain ⟨f, hf, hR⟩ := Kd.S_tag HO xs.length okp (fun _ hk h2 => h2.2 hk)
  refine in_R_append (Kd.tag f d) base hgd s x t e z bytes ho ht hinfo hz hs0 hb0 v xs.zipIdx (p, xs.length) cs ok okp hs hx (d.M_mono (fun k hk => ⟨hk, hf k hk⟩) hp) hokp hfresh (Kd.R_mono hR (fun _ hk => hk.1)) HB hbase (by rw [List.length_zipIdx]; exact hl) ?_
  intro v1 w1 hr
  rw [← Kd.zip_snoc] at hr
  exact h v1 w1 ⟨f, hr⟩
end
section
variable {α : Type} {d : Kd α} {e base : Nat} {ok : Nat → Prop} {w w1 : World} {v : Value} {xs : List α}
/-- A turn of a block that is no cells. -/
theorem S_other (h : Kd.S d e w base ok v xs) {row : Option Nat} (hg : w.grownBy w1 row) (hr : ∀ r, row = some r → ∃ o : Obj, w.heap[r]? = some o ∧ o.isCells = false) : Kd.S d e w1 base ok v xs :=
  Kd.S_mono (Kd.S_grown (Kd.S_bound h) hg (fun k hk e' => by
    obtain ⟨o, ho, hc⟩ := hr k e'.symm
    obtain ⟨_, _, _, q, _, cells, hcell⟩ := hk
    rw [hcell] at ho
    cases ho
    cases hc)) (fun _ hk => hk.1)
theorem R_other (h : d.R e w base ok v xs) {row : Option Nat} (hg : w.grownBy w1 row) (hr : ∀ r, row = some r → ∃ o : Obj, w.heap[r]? = some o ∧ o.isCells = false) : d.R e w1 base ok v xs :=
  Kd.R_mono (Kd.R_grown (Kd.R_bound h) hg (fun k hk e' => by
    obtain ⟨o, ho, hc⟩ := hr k e'.symm
    obtain ⟨_, _, _, q, _, cells, hcell⟩ := hk
    rw [hcell] at ho
    cases ho
    cases hc)) (fun _ hk => hk.1)
theorem blk_other {g : Nat} {o0 : Obj} (h : w.heap[g]? = some o0) (h0 : o0.isCells = true) {row : Option Nat} (hg : w.grownBy w1 row) (hr : ∀ r, row = some r → ∃ o : Obj, w.heap[r]? = some o ∧ o.isCells = false) : w1.heap[g]? = some o0 :=
  (hg.block g (Array.getElem?_eq_some_iff.1 h).1 (fun e' => by
    obtain ⟨o, ho, hc⟩ := hr g e'.symm
    rw [h] at ho
    cases ho
    rw [h0] at hc
    cases hc)).trans h
theorem keepsFrom_below {A B : World} (n : Nat) (h : Below A.heap.size A B) : KeepsFrom n A B :=
  ⟨h.size, fun k o _ hk _ => (h.block k (Array.getElem?_eq_some_iff.1 hk).1).trans hk⟩
end
end Go.Proofs.YtoenklncjbcgiaaGreatDoor.P
