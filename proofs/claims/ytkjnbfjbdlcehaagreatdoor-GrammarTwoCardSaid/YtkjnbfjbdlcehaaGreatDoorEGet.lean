/- What number.Get comes to: the number of a decimal text; else where the text stops being one, or that it is too long or too great. Every text. -/
import Derived.Test.YtkjnbfjbdlcehaaGreatDoorPx0
import Derived.Test.YtkjnbfjbdlcehaaGreatDoorShelfP
import Derived.Test.YtkjnbfjbdlcehaaGreatDoorG
import Derived.WalkMore
import Derived.Deep.QuietTactic
import Derived.BigQuiet
import Derived.StillTailTactics
namespace Go.Proofs.YtkjnbfjbdlcehaaGreatDoor.P
open Go.RowKit Go.Proofs.YtkjnbfjbdlcehaaGreatDoorW.PrintWords Go.Proofs.YtkjnbfjbdlcehaaGreatDoorW.PrintLast Go.Proofs.YtkjnbfjbdlcehaaGreatDoorW.PrintMore
set_option linter.unusedVariables false
set_option linter.unusedSimpArgs false

/-- Whether at i (the digits begin at f) no number's text goes on. -/
def badAt (s : ByteArray) (f i : Nat) : Bool := decide (bt s i < 48) || decide (57 < bt s i) || (decide (f < i) && bt s f == 48) || (i == f && f == 1 && bt s i == 48)
/-- The first such place from i on, within k places. -/
def scan (s : ByteArray) (f : Nat) : Nat → Nat → Option Nat
  | 0, _ => none
  | k + 1, i => if i < s.size then (if badAt s f i then some i else scan s f k (i + 1)) else none
def firstOf (s : ByteArray) : Nat := if 0 < s.size ∧ bt s 0 = 45 then 1 else 0
def getParse : Lib.NumEnd Int → Option (Int × Int × Int)
  | .ok v => some (v, 0, 0)
  | .range => some (0, 3, 0)
  | _ => none
def getRest (s : ByteArray) (f : Nat) : Option Nat → Option (Int × Int × Int)
  | some i => some (0, 5, i)
  | none => if s.size = f then some (0, 5, (f : Int)) else getParse (Lib.parseIntB 64 s.data.toList)
def number_Get.f (s : ByteArray) : Option (Int × Int × Int) :=
  if 20 < s.size then some (0, 4, 20) else getRest s (firstOf s) (scan s (firstOf s) 21 (firstOf s))
theorem badAt_11 (s : ByteArray) : badAt s 1 1 = (decide (bt s 1 < 48) || decide (57 < bt s 1) || (bt s 1 == 48)) := by
  unfold badAt
  simp
theorem badAt_00 (s : ByteArray) : badAt s 0 0 = (decide (bt s 0 < 48) || decide (57 < bt s 0)) := by
  unfold badAt
  simp
theorem toList_len (s : ByteArray) : s.toList.length = s.size := by
  rw [show s.toList = s.data.toList from ByteArray.toList_eq s]
  rfl
theorem scan_bad {s : ByteArray} {f g k : Nat} (h : k < s.size) (hb : badAt s f k = true) : scan s f (g + 1) k = some k := by
  unfold scan
  rw [if_pos h, if_pos hb]
theorem scan_good {s : ByteArray} {f g k : Nat} (h : k < s.size) (hb : badAt s f k = false) : scan s f (g + 1) k = scan s f g (k + 1) := by
  conv => lhs; unfold scan
  rw [if_pos h, if_neg (by simp [hb])]
theorem scan_end {s : ByteArray} {f g k : Nat} (h : ¬ k < s.size) : scan s f (g + 1) k = none := by
  unfold scan
  rw [if_neg h]
theorem scan_at {s : ByteArray} {f g k : Nat} {r : Option Nat} (hk : scan s f (g - 9) k = r) (hg : 10 ≤ g) : scan s f ((g - 10) + 1) k = r := by
  rw [show g - 10 + 1 = g - 9 by omega]
  exact hk
theorem first_cases (s : ByteArray) : (s.toList = [] ∧ s.size = 0 ∧ firstOf s = 0) ∨ (¬ s.toList = [] ∧ ∃ h : 0 < s.size, ((s[0].toNat : Int) == 45) = true ∧ firstOf s = 1) ∨ (¬ s.toList = [] ∧ ∃ h : 0 < s.size, ((s[0].toNat : Int) == 45) = false ∧ firstOf s = 0) := by
  by_cases h : 0 < s.size
  · have hl : ¬ s.toList = [] := by
      intro e
      have : s.size = 0 := by rw [← toList_len, e]; rfl
      omega
    have hb : (s[0].toNat : Int) = bt s 0 := bt_at s 0 h
    refine .inr ?_
    by_cases c : bt s 0 = 45
    · exact .inl ⟨hl, h, by rw [hb, c]; rfl, by unfold firstOf; rw [if_pos ⟨h, c⟩]⟩
    · exact .inr ⟨hl, h, by rw [hb]; exact beq_eq_false_iff_ne.2 c, by unfold firstOf; rw [if_neg (fun e => c e.2)]⟩
  · refine .inl ⟨?_, by omega, by unfold firstOf; rw [if_neg (fun e => h e.1)]⟩
    exact List.eq_nil_of_length_eq_zero (by rw [toList_len]; omega)

set_option maxHeartbeats 1000000 in
set_option maxRecDepth 100000 in
theorem number_Get.calls (s : ByteArray) (r1 r2 r3 : Int) (w : World) (hG : GOk w) (h : number_Get.f s = some (r1, r2, r3)) :
    Calls Tryz.prog 148 #[.string s] w fun e w' => e = .returned (.tuple #[.int .i64 r1, .agg #[.int .i64 r2, .int .i64 r3]]) ∧ Below w.heap.size w w' := by
  have hu25 := Tryz.underlying44
  have HG := Aside0.mk hG
  clear hG
  unfold number_Get.f at h
  by_cases c20 : 20 < s.size
  · rw [if_pos c20] at h
    simp only [Option.some.injEq, Prod.mk.injEq] at h
    obtain ⟨rfl, rfl, rfl⟩ := h
    have c20b : decide (20 < (s.size : Int)) = true := decide_eq_true (by omega)
    go_enter Tryz.func148, Tryz.ntmps148
    go_wp2
    (refine bodyPost_ret (results_tc rfl _ _ w.heap.size 44 _ (0, 0) _ rfl (blk_new w _) hu25 rfl (by kernel_rfl)) rfl ?_; exact ⟨rfl, (Below.refl _ w).alloc (Nat.le_refl _) _⟩)
  · rw [if_neg c20] at h
    have c20b : decide (20 < (s.size : Int)) = false := decide_eq_false (by omega)
    have C20 := Aside0.mk c20
    clear c20
    rcases first_cases s with ⟨hl, hz, hf⟩ | ⟨hl, hp, hb, hf⟩ | ⟨hl, hp, hb, hf⟩
    all_goals rw [hf] at h
    rotate_left 1
    all_goals first | have he : (!s.toList.isEmpty) = true := by simp [hl] | skip
    rotate_right 1
    all_goals have H := Aside0.mk h
    all_goals clear h
    all_goals go_enter Tryz.func148, Tryz.ntmps148
    all_goals go_wp2
    · have hH := H.out
      rw [scan_end (s := s) (f := 0) (g := 20) (k := 0) (by omega)] at hH
      simp only [getRest] at hH
      rw [if_pos hz] at hH
      simp only [Option.some.injEq, Prod.mk.injEq] at hH
      obtain ⟨rfl, rfl, rfl⟩ := hH
      go_loopg [5] 30 (fun g v5 wr => v5 = .int .i64 0 ∧ wr = w.alloc (.cells #[.int .i64 0, .int .i64 0] 44))
      case atStart => exact ⟨rfl, rfl⟩
      case round =>
        obtain ⟨rfl, rfl⟩ := hrel
        have e1 : decide (0 < (s.size : Int)) = false := decide_eq_false (by omega)
        have e2 : ((s.size : Int) == 0) = true := beq_iff_eq.2 (by omega)
        go_wp2
        (refine bodyPost_ret (results_tc rfl _ _ w.heap.size 44 _ (0, 0) _ rfl (blk_new w _) hu25 rfl (by kernel_rfl)) rfl ?_; exact ⟨rfl, (Below.refl _ w).alloc (Nat.le_refl _) _⟩)
    · go_loopg [5] 30 (fun g v5 wr => ∃ k : Nat, v5 = .int .i64 k ∧ Aside0 (1 ≤ k ∧ k + g = 31 ∧ k ≤ s.size) ∧ Aside0 (scan s 1 (g - 9) k = scan s 1 21 1) ∧ wr = w.alloc (.cells #[.int .i64 0, .int .i64 0] 44))
      case atStart => exact ⟨1, rfl, ⟨by simp; omega⟩, ⟨rfl⟩, rfl⟩
      case round =>
        obtain ⟨k, rfl, hk, hsc, rfl⟩ := hrel
        have hx : ∀ h : k < s.size, ((s[k]'h).toNat : Int) = bt s k := by simpa using bt_at s (k : Int)
        have hx1 : ∀ h : 1 < s.size, ((s[1]'h).toNat : Int) = bt s 1 := bt_at s 1
        by_cases ck : k < s.size
        · have e1 : decide ((k : Int) < (s.size : Int)) = true := decide_eq_true (by omega)
          go_wp2
          all_goals first | (have e1k : k = 1 := (by omega); subst e1k) | skip
          all_goals first
          | (have hbad : badAt s 1 k = true := by ((first | rw [badAt_11] | rw [badAt_00] | unfold badAt); (try simp only [beq_iff_eq, beq_eq_false_iff_ne, ne_eq] at *); (simp only [Bool.or_eq_true, Bool.and_eq_true, Bool.or_eq_false_iff, Bool.and_eq_false_iff, decide_eq_true_eq, decide_eq_false_iff_not, beq_iff_eq, beq_eq_false_iff_ne, ne_eq]); have e11 : bt s ((1 : Nat) : Int) = bt s 1 := rfl; have e00 : bt s ((0 : Nat) : Int) = bt s 0 := rfl; omega)
             have hH := H.out
             rw [← hsc.out, show gk - 9 = (gk - 10) + 1 by (have := hk.out; have := C20.out; omega), scan_bad ck hbad] at hH
             simp only [getRest, Option.some.injEq, Prod.mk.injEq] at hH
             obtain ⟨rfl, rfl, rfl⟩ := hH
             (refine bodyPost_ret (results_tc rfl _ _ w.heap.size 44 _ (0, 0) _ rfl (blk_new w _) hu25 rfl (by kernel_rfl)) rfl ?_; exact ⟨rfl, (Below.refl _ w).alloc (Nat.le_refl _) _⟩))
          | (have hgood : badAt s 1 k = false := by ((first | rw [badAt_11] | rw [badAt_00] | unfold badAt); (try simp only [beq_iff_eq, beq_eq_false_iff_ne, ne_eq] at *); (simp only [Bool.or_eq_true, Bool.and_eq_true, Bool.or_eq_false_iff, Bool.and_eq_false_iff, decide_eq_true_eq, decide_eq_false_iff_not, beq_iff_eq, beq_eq_false_iff_ne, ne_eq]); have e11 : bt s ((1 : Nat) : Int) = bt s 1 := rfl; have e00 : bt s ((0 : Nat) : Int) = bt s 0 := rfl; omega)
             have hS := hsc.out
             rw [show gk - 9 = (gk - 10) + 1 by (have := hk.out; have := C20.out; omega), scan_good ck hgood] at hS
             go_roundg (gk - 1)
             case measure => have := hk.out; have := C20.out; omega
             case rel => exact ⟨k + 1, by (have := C20.out; first | (go_num; done) | (congr 1; omega) | (congr 1; unfold wrap64; omega)), ⟨by have := hk.out; have := C20.out; omega⟩, ⟨by rw [show gk - 1 - 9 = gk - 10 by omega]; exact hS⟩, rfl⟩)
          | (have hbad : badAt s 1 1 = true := by ((first | rw [badAt_11] | rw [badAt_00] | unfold badAt); (try simp only [beq_iff_eq, beq_eq_false_iff_ne, ne_eq] at *); (simp only [Bool.or_eq_true, Bool.and_eq_true, Bool.or_eq_false_iff, Bool.and_eq_false_iff, decide_eq_true_eq, decide_eq_false_iff_not, beq_iff_eq, beq_eq_false_iff_ne, ne_eq]); have e11 : bt s ((1 : Nat) : Int) = bt s 1 := rfl; have e00 : bt s ((0 : Nat) : Int) = bt s 0 := rfl; omega)
             have hH := H.out
             rw [← hsc.out, show gk - 9 = (gk - 10) + 1 by (have := hk.out; have := C20.out; omega), scan_bad ck hbad] at hH
             simp only [getRest, Option.some.injEq, Prod.mk.injEq] at hH
             obtain ⟨rfl, rfl, rfl⟩ := hH
             (refine bodyPost_ret (results_tc rfl _ _ w.heap.size 44 _ (0, 0) _ rfl (blk_new w _) hu25 rfl (by kernel_rfl)) rfl ?_; exact ⟨rfl, (Below.refl _ w).alloc (Nat.le_refl _) _⟩))
          | (have hgood : badAt s 1 1 = false := by ((first | rw [badAt_11] | rw [badAt_00] | unfold badAt); (try simp only [beq_iff_eq, beq_eq_false_iff_ne, ne_eq] at *); (simp only [Bool.or_eq_true, Bool.and_eq_true, Bool.or_eq_false_iff, Bool.and_eq_false_iff, decide_eq_true_eq, decide_eq_false_iff_not, beq_iff_eq, beq_eq_false_iff_ne, ne_eq]); have e11 : bt s ((1 : Nat) : Int) = bt s 1 := rfl; have e00 : bt s ((0 : Nat) : Int) = bt s 0 := rfl; omega)
             have hS := hsc.out
             rw [show gk - 9 = (gk - 10) + 1 by (have := hk.out; have := C20.out; omega), scan_good ck hgood] at hS
             go_roundg (gk - 1)
             case measure => have := hk.out; have := C20.out; omega
             case rel => exact ⟨1 + 1, rfl, ⟨by have := hk.out; have := C20.out; omega⟩, ⟨by rw [show gk - 1 - 9 = gk - 10 by omega]; exact hS⟩, rfl⟩)
        · have e1 : decide ((k : Int) < (s.size : Int)) = false := decide_eq_false (by omega)
          have hH := H.out
          rw [← hsc.out, show gk - 9 = (gk - 10) + 1 by (have := hk.out; have := C20.out; omega), scan_end ck] at hH
          simp only [getRest] at hH
          by_cases cs : s.size = 1
          · rw [if_pos cs] at hH
            simp only [Option.some.injEq, Prod.mk.injEq] at hH
            obtain ⟨rfl, rfl, rfl⟩ := hH
            have e2 : ((s.size : Int) == 1) = true := beq_iff_eq.2 (by omega)
            go_wp2
            (refine bodyPost_ret (results_tc rfl _ _ w.heap.size 44 _ (0, 0) _ rfl (blk_new w _) hu25 rfl (by kernel_rfl)) rfl ?_; exact ⟨rfl, (Below.refl _ w).alloc (Nat.le_refl _) _⟩)
          · rw [if_neg cs] at hH
            have e2 : ((s.size : Int) == 1) = false := beq_eq_false_iff_ne.2 (by omega)
            rcases hpi : Lib.parseIntB 64 s.data.toList with v | _ | _
            · rw [hpi] at hH
              simp only [getParse, Option.some.injEq, Prod.mk.injEq] at hH
              obtain ⟨rfl, rfl, rfl⟩ := hH
              go_wp2_with (go_at_call 161; refine (Tryz.strconv_ParseInt_10_at64_ok s (by have := C20.out; omega) v hpi _).mono ?_; rintro e w2 ⟨rfl, hw2⟩; have hb2 : Below (w.alloc (.cells #[.int .i64 0, .int .i64 0] 44)).heap.size (w.alloc (.cells #[.int .i64 0, .int .i64 0] 44)) w2 := (by rcases hw2 with rfl | ⟨t, rfl⟩; exact Below.refl _ _; exact Lib.bytesWorld_below _ _ _); have hblk := blk_below (blk_new w _) hb2; have hc0 := (blk_cell hblk 0).trans rfl; have hc1 := (blk_cell hblk 1).trans rfl; have hf0 := blk_frozen hblk 0; have hf1 := blk_frozen hblk 1; have HB2 := Aside0.mk hb2; have HBK := Aside0.mk hblk; clear hw2 hb2 hblk)
              refine bodyPost_ret (results_tc rfl _ _ w.heap.size 44 #[.int .i64 0, .int .i64 0] (0, 0) _ rfl (by refine blk_put (cs := #[.int .i64 0, .int .i64 0]) ?_ 1 _ rfl; refine blk_put (cs := #[.int .i64 0, .int .i64 0]) ?_ 0 _ rfl; exact HBK.out) hu25 rfl (by kernel_rfl)) rfl ?_
              exact ⟨rfl, ((((Below.refl _ w).alloc (Nat.le_refl _) _).trans (HB2.out.mono (by simp))).setCell (p := ⟨w.heap.size, 0, none⟩) (Nat.le_refl _) _).setCell (p := ⟨w.heap.size, 1, none⟩) (Nat.le_refl _) _⟩
            · rw [hpi] at hH
              simp [getParse] at hH
            · rw [hpi] at hH
              simp only [getParse, Option.some.injEq, Prod.mk.injEq] at hH
              obtain ⟨rfl, rfl, rfl⟩ := hH
              obtain ⟨ev, hev, hev2⟩ := GOk.below HG.out ((Below.refl _ w).alloc (Nat.le_refl _) (.cells #[.int .i64 0, .int .i64 0] 44))
              have HE := Aside0.mk hev
              have HE2 := Aside0.mk hev2
              clear hev hev2
              go_wp2_with (go_at_call 161; refine (Tryz.strconv_ParseInt_10_at64_range s (by have := C20.out; omega) hpi ev _ HE.out HE2.out).mono ?_; rintro e w2 ⟨NN, rfl, _, _, hb2⟩; have hblk := blk_below (blk_new w _) hb2; have hc0 := (blk_cell hblk 0).trans rfl; have hc1 := (blk_cell hblk 1).trans rfl; have hf0 := blk_frozen hblk 0; have hf1 := blk_frozen hblk 1; have HB2 := Aside0.mk hb2; have HBK := Aside0.mk hblk; clear hb2 hblk)
              refine bodyPost_ret (results_tc rfl _ _ w.heap.size 44 #[.int .i64 3, .int .i64 0] (0, 0) _ rfl (by refine blk_put (cs := #[.int .i64 3, .int .i64 0]) ?_ 1 _ rfl; refine blk_put (cs := #[.int .i64 0, .int .i64 0]) ?_ 0 _ rfl; exact HBK.out) hu25 rfl (by kernel_rfl)) rfl ?_
              exact ⟨rfl, ((((Below.refl _ w).alloc (Nat.le_refl _) _).trans (HB2.out.mono (by simp))).setCell (p := ⟨w.heap.size, 0, none⟩) (Nat.le_refl _) _).setCell (p := ⟨w.heap.size, 1, none⟩) (Nat.le_refl _) _⟩
    · have hx0 : ((s[0]'hp).toNat : Int) = bt s 0 := bt_at s 0 hp
      rw [hx0]
      go_loopg [5] 30 (fun g v5 wr => ∃ k : Nat, v5 = .int .i64 k ∧ Aside0 (0 ≤ k ∧ k + g = 30 ∧ k ≤ s.size) ∧ Aside0 (scan s 0 (g - 9) k = scan s 0 21 0) ∧ wr = w.alloc (.cells #[.int .i64 0, .int .i64 0] 44))
      case atStart => exact ⟨0, rfl, ⟨by simp; try omega⟩, ⟨rfl⟩, rfl⟩
      case round =>
        obtain ⟨k, rfl, hk, hsc, rfl⟩ := hrel
        have hx : ∀ h : k < s.size, ((s[k]'h).toNat : Int) = bt s k := by simpa using bt_at s (k : Int)
        have hx1 : ∀ h : 0 < s.size, ((s[0]'h).toNat : Int) = bt s 0 := bt_at s 0
        by_cases ck : k < s.size
        · have e1 : decide ((k : Int) < (s.size : Int)) = true := decide_eq_true (by omega)
          go_wp2
          all_goals first | (have e1k : k = 0 := (by omega); subst e1k) | skip
          all_goals first
          | (have hbad : badAt s 0 k = true := by ((first | rw [badAt_11] | rw [badAt_00] | unfold badAt); (try simp only [beq_iff_eq, beq_eq_false_iff_ne, ne_eq] at *); (simp only [Bool.or_eq_true, Bool.and_eq_true, Bool.or_eq_false_iff, Bool.and_eq_false_iff, decide_eq_true_eq, decide_eq_false_iff_not, beq_iff_eq, beq_eq_false_iff_ne, ne_eq]); have e11 : bt s ((1 : Nat) : Int) = bt s 1 := rfl; have e00 : bt s ((0 : Nat) : Int) = bt s 0 := rfl; omega)
             have hH := H.out
             rw [← hsc.out, show gk - 9 = (gk - 10) + 1 by (have := hk.out; have := C20.out; omega), scan_bad ck hbad] at hH
             simp only [getRest, Option.some.injEq, Prod.mk.injEq] at hH
             obtain ⟨rfl, rfl, rfl⟩ := hH
             (refine bodyPost_ret (results_tc rfl _ _ w.heap.size 44 _ (0, 0) _ rfl (blk_new w _) hu25 rfl (by kernel_rfl)) rfl ?_; exact ⟨rfl, (Below.refl _ w).alloc (Nat.le_refl _) _⟩))
          | (have hgood : badAt s 0 k = false := by ((first | rw [badAt_11] | rw [badAt_00] | unfold badAt); (try simp only [beq_iff_eq, beq_eq_false_iff_ne, ne_eq] at *); (simp only [Bool.or_eq_true, Bool.and_eq_true, Bool.or_eq_false_iff, Bool.and_eq_false_iff, decide_eq_true_eq, decide_eq_false_iff_not, beq_iff_eq, beq_eq_false_iff_ne, ne_eq]); have e11 : bt s ((1 : Nat) : Int) = bt s 1 := rfl; have e00 : bt s ((0 : Nat) : Int) = bt s 0 := rfl; omega)
             have hS := hsc.out
             rw [show gk - 9 = (gk - 10) + 1 by (have := hk.out; have := C20.out; omega), scan_good ck hgood] at hS
             go_roundg (gk - 1)
             case measure => have := hk.out; have := C20.out; omega
             case rel => exact ⟨k + 1, by (have := C20.out; first | (go_num; done) | (congr 1; omega) | (congr 1; unfold wrap64; omega)), ⟨by have := hk.out; have := C20.out; omega⟩, ⟨by rw [show gk - 1 - 9 = gk - 10 by omega]; exact hS⟩, rfl⟩)
          | (have hbad : badAt s 0 0 = true := by ((first | rw [badAt_11] | rw [badAt_00] | unfold badAt); (try simp only [beq_iff_eq, beq_eq_false_iff_ne, ne_eq] at *); (simp only [Bool.or_eq_true, Bool.and_eq_true, Bool.or_eq_false_iff, Bool.and_eq_false_iff, decide_eq_true_eq, decide_eq_false_iff_not, beq_iff_eq, beq_eq_false_iff_ne, ne_eq]); have e11 : bt s ((1 : Nat) : Int) = bt s 1 := rfl; have e00 : bt s ((0 : Nat) : Int) = bt s 0 := rfl; omega)
             have hH := H.out
             rw [← hsc.out, show gk - 9 = (gk - 10) + 1 by (have := hk.out; have := C20.out; omega), scan_bad ck hbad] at hH
             simp only [getRest, Option.some.injEq, Prod.mk.injEq] at hH
             obtain ⟨rfl, rfl, rfl⟩ := hH
             (refine bodyPost_ret (results_tc rfl _ _ w.heap.size 44 _ (0, 0) _ rfl (blk_new w _) hu25 rfl (by kernel_rfl)) rfl ?_; exact ⟨rfl, (Below.refl _ w).alloc (Nat.le_refl _) _⟩))
          | (have hgood : badAt s 0 0 = false := by ((first | rw [badAt_11] | rw [badAt_00] | unfold badAt); (try simp only [beq_iff_eq, beq_eq_false_iff_ne, ne_eq] at *); (simp only [Bool.or_eq_true, Bool.and_eq_true, Bool.or_eq_false_iff, Bool.and_eq_false_iff, decide_eq_true_eq, decide_eq_false_iff_not, beq_iff_eq, beq_eq_false_iff_ne, ne_eq]); have e11 : bt s ((1 : Nat) : Int) = bt s 1 := rfl; have e00 : bt s ((0 : Nat) : Int) = bt s 0 := rfl; omega)
             have hS := hsc.out
             rw [show gk - 9 = (gk - 10) + 1 by (have := hk.out; have := C20.out; omega), scan_good ck hgood] at hS
             go_roundg (gk - 1)
             case measure => have := hk.out; have := C20.out; omega
             case rel => exact ⟨0 + 1, rfl, ⟨by have := hk.out; have := C20.out; omega⟩, ⟨by rw [show gk - 1 - 9 = gk - 10 by omega]; exact hS⟩, rfl⟩)
        · have e1 : decide ((k : Int) < (s.size : Int)) = false := decide_eq_false (by omega)
          have hH := H.out
          rw [← hsc.out, show gk - 9 = (gk - 10) + 1 by (have := hk.out; have := C20.out; omega), scan_end ck] at hH
          simp only [getRest] at hH
          by_cases cs : s.size = 0
          · omega
          · rw [if_neg cs] at hH
            have e2 : ((s.size : Int) == 0) = false := beq_eq_false_iff_ne.2 (by omega)
            rcases hpi : Lib.parseIntB 64 s.data.toList with v | _ | _
            · rw [hpi] at hH
              simp only [getParse, Option.some.injEq, Prod.mk.injEq] at hH
              obtain ⟨rfl, rfl, rfl⟩ := hH
              go_wp2_with (go_at_call 161; refine (Tryz.strconv_ParseInt_10_at64_ok s (by have := C20.out; omega) v hpi _).mono ?_; rintro e w2 ⟨rfl, hw2⟩; have hb2 : Below (w.alloc (.cells #[.int .i64 0, .int .i64 0] 44)).heap.size (w.alloc (.cells #[.int .i64 0, .int .i64 0] 44)) w2 := (by rcases hw2 with rfl | ⟨t, rfl⟩; exact Below.refl _ _; exact Lib.bytesWorld_below _ _ _); have hblk := blk_below (blk_new w _) hb2; have hc0 := (blk_cell hblk 0).trans rfl; have hc1 := (blk_cell hblk 1).trans rfl; have hf0 := blk_frozen hblk 0; have hf1 := blk_frozen hblk 1; have HB2 := Aside0.mk hb2; have HBK := Aside0.mk hblk; clear hw2 hb2 hblk)
              refine bodyPost_ret (results_tc rfl _ _ w.heap.size 44 #[.int .i64 0, .int .i64 0] (0, 0) _ rfl (by refine blk_put (cs := #[.int .i64 0, .int .i64 0]) ?_ 1 _ rfl; refine blk_put (cs := #[.int .i64 0, .int .i64 0]) ?_ 0 _ rfl; exact HBK.out) hu25 rfl (by kernel_rfl)) rfl ?_
              exact ⟨rfl, ((((Below.refl _ w).alloc (Nat.le_refl _) _).trans (HB2.out.mono (by simp))).setCell (p := ⟨w.heap.size, 0, none⟩) (Nat.le_refl _) _).setCell (p := ⟨w.heap.size, 1, none⟩) (Nat.le_refl _) _⟩
            · rw [hpi] at hH
              simp [getParse] at hH
            · rw [hpi] at hH
              simp only [getParse, Option.some.injEq, Prod.mk.injEq] at hH
              obtain ⟨rfl, rfl, rfl⟩ := hH
              obtain ⟨ev, hev, hev2⟩ := GOk.below HG.out ((Below.refl _ w).alloc (Nat.le_refl _) (.cells #[.int .i64 0, .int .i64 0] 44))
              have HE := Aside0.mk hev
              have HE2 := Aside0.mk hev2
              clear hev hev2
              go_wp2_with (go_at_call 161; refine (Tryz.strconv_ParseInt_10_at64_range s (by have := C20.out; omega) hpi ev _ HE.out HE2.out).mono ?_; rintro e w2 ⟨NN, rfl, _, _, hb2⟩; have hblk := blk_below (blk_new w _) hb2; have hc0 := (blk_cell hblk 0).trans rfl; have hc1 := (blk_cell hblk 1).trans rfl; have hf0 := blk_frozen hblk 0; have hf1 := blk_frozen hblk 1; have HB2 := Aside0.mk hb2; have HBK := Aside0.mk hblk; clear hb2 hblk)
              refine bodyPost_ret (results_tc rfl _ _ w.heap.size 44 #[.int .i64 3, .int .i64 0] (0, 0) _ rfl (by refine blk_put (cs := #[.int .i64 3, .int .i64 0]) ?_ 1 _ rfl; refine blk_put (cs := #[.int .i64 0, .int .i64 0]) ?_ 0 _ rfl; exact HBK.out) hu25 rfl (by kernel_rfl)) rfl ?_
              exact ⟨rfl, ((((Below.refl _ w).alloc (Nat.le_refl _) _).trans (HB2.out.mono (by simp))).setCell (p := ⟨w.heap.size, 0, none⟩) (Nat.le_refl _) _).setCell (p := ⟨w.heap.size, 1, none⟩) (Nat.le_refl _) _⟩
end Go.Proofs.YtkjnbfjbdlcehaaGreatDoor.P
