/- names.Check: is a text a name? With its function value (letter.part as a method expression). -/
import Derived.Test.YtkjnbfjbdlcehaaGreatDoorPx0
namespace Go.Proofs.YtkjnbfjbdlcehaaGreatDoor.P
open Go.RowKit Go.Proofs.YtkjnbfjbdlcehaaGreatDoorW.PrintWords Go.Proofs.YtkjnbfjbdlcehaaGreatDoorW.PrintLast Go.Proofs.YtkjnbfjbdlcehaaGreatDoorW.PrintMore
set_option linter.unusedVariables false
set_option linter.unusedSimpArgs false
def partB (c : Int) : Bool := decide (97 ≤ c ∧ c ≤ 122) || decide (48 ≤ c ∧ c ≤ 57) || decide (c = 95)
theorem part_calls (c : Int) (w : World) : Calls Tryz.prog 66 #[.int .u8 c] w fun e w' => e = .returned (.bool (partB c)) ∧ w' = w := by
  by_cases a1 : 97 ≤ c <;> by_cases a2 : c ≤ 122 <;> by_cases a3 : 48 ≤ c <;> by_cases a4 : c ≤ 57 <;> rcases (show (c = 95 ∧ (c == 95) = true) ∨ (c ≠ 95 ∧ (c == 95) = false) from by by_cases h : c = 95 <;> simp [h]) with ⟨a5, a6⟩ | ⟨a5, a6⟩
  all_goals first
    | (exfalso; omega)
    | (have HP : Aside0 (partB c = _) := ⟨by unfold partB; simp only [a1, a2, a3, a4, a5, and_self, and_true, true_and, and_false, false_and, decide_true, decide_false, Bool.or_true, Bool.or_false, Bool.true_or, Bool.false_or]; rfl⟩
       rw [HP.out]
       clear HP
       go_enter Tryz.func66, Tryz.ntmps66
       go_wp2
       go_ret
       exact ⟨rfl, rfl⟩)
def allB (s : ByteArray) : Bool := (List.range s.size).all (fun i => partB (bt s (i : Int)))
theorem allB_no {s : ByteArray} {k : Nat} (hk : k < s.size) (h : partB (bt s (k : Int)) = false) : allB s = false := by
  unfold allB
  rw [List.all_eq_false]
  exact ⟨k, List.mem_range.2 hk, by rw [h]; decide⟩
theorem allB_yes {s : ByteArray} (h : ∀ k : Nat, k < s.size → partB (bt s (k : Int)) = true) : allB s = true := by
  unfold allB
  rw [List.all_eq_true]
  exact fun k hk => h k (List.mem_range.1 hk)
def partF : Value := .func (.func 66) #[] #[]
set_option maxRecDepth 100000 in
set_option maxHeartbeats 1000000 in
theorem all_calls (s : ByteArray) (w : World) (hs : s.size ≤ 140737488351232) : Calls Tryz.prog 65 #[.string s, partF] w fun e w' => e = .returned (.bool (allB s)) ∧ Drawn0 w w' := by
  unfold partF
  have HPC := Aside0.mk part_calls
  go_enter Tryz.func65, Tryz.ntmps65
  go_wp2
  go_loopg [8] (s.size + 1) (fun g v6 wr => ∃ k : Nat, k ≤ s.size ∧ Aside0 (k + g = s.size + 1) ∧ v6 = .int .i64 k ∧ Aside0 (∀ j : Nat, j < k → partB (bt s (j : Int)) = true) ∧ Drawn0 w wr)
  case atStart => exact ⟨0, by omega, ⟨by omega⟩, rfl, ⟨fun j hj => by omega⟩, Drawn0.refl _⟩
  case round =>
    obtain ⟨k, hk, hg, rfl, hp, hd⟩ := hrel
    by_cases c : k < s.size
    · have q1 : 0 ≤ (k : Int) := by omega
      have q2 : (k : Int) < (s.size : Int) := by omega
      have q3 : ((k : Int) < (s.size : Int)) = True := eq_true q2
      have q4 := decide_eq_true q2
      have q5 : (k < s.size) = True := eq_true c
      have hx6 : ∀ h : k < s.size, ((s[k]'h).toNat : Int) = bt s k := bt_at s k
      cases hb : partB (bt s k) with
      | true =>
        have HB := Aside0.mk hb
        clear hb
        go_wp2_with (go_at_call 66; refine (HPC.out _ _).mono ?_; rintro e w2 ⟨rfl, rfl⟩; rw [HB.out])
        go_roundg (gk - 1)
        case measure => have := hg.out; omega
        case rel => exact ⟨k + 1, by omega, ⟨by have := hg.out; omega⟩, by go_num, ⟨fun j hj => by
          rcases Nat.lt_or_ge j k with h | h
          · exact hp.out j h
          · rw [show j = k by omega]; exact HB.out⟩, by repeat (first | exact hd | apply Drawn0.step)⟩
      | false =>
        have HB := Aside0.mk hb
        have HA := Aside0.mk (allB_no c hb)
        clear hb
        go_wp2_with (go_at_call 66; refine (HPC.out _ _).mono ?_; rintro e w2 ⟨rfl, rfl⟩; rw [HB.out])
        go_ret
        exact ⟨by rw [HA.out]; rfl, by repeat (first | exact hd | apply Drawn0.step)⟩
    · have q2 : ¬ (k : Int) < (s.size : Int) := by omega
      have q4 := decide_eq_false q2
      have HA := Aside0.mk (allB_yes (fun j hj => hp.out j (by omega)))
      go_wp2
      go_ret
      exact ⟨by rw [HA.out]; rfl, by repeat (first | exact hd | apply Drawn0.step)⟩
def nameB (s : ByteArray) : Bool := decide (1 ≤ s.size ∧ s.size ≤ 32) && decide (97 ≤ bt s 0 ∧ bt s 0 ≤ 122) && allB s
def errN (b : Bool) : Int := if b then 0 else 7
theorem toList_len03 (s : ByteArray) : s.toList.length = s.size := by
  rw [show s.toList = s.data.toList from ByteArray.toList_eq s]
  exact data_length s
set_option maxRecDepth 100000 in
set_option maxHeartbeats 1000000 in
theorem Check_calls (s : ByteArray) (w : World) (hs : s.size ≤ 140737488351232) : Calls Tryz.prog 41 #[.string s] w fun e w' => e = .returned (.int .i64 (errN (nameB s))) ∧ Drawn0 w w' := by
  have HA0 := Aside0.mk (fun w' => all_calls s w' hs)
  unfold partF at HA0
  by_cases c0 : s.size = 0
  · have H := Aside0.mk (show nameB s = false from by unfold nameB; rw [decide_eq_false (by omega)]; rfl)
    have e0 : s.toList = [] := List.eq_nil_of_length_eq_zero (by rw [toList_len03]; exact c0)
    clear HA0
    go_enter Tryz.func41, Tryz.ntmps41
    go_wp2
    go_ret
    exact ⟨by rw [H.out]; rfl, by repeat (first | exact Drawn0.refl _ | apply Drawn0.step)⟩
  · have q1 : 0 < s.size := by omega
    have e0 : ¬ s.toList = [] := fun h => c0 (by rw [← toList_len03, h]; rfl)
    have e1 : s.toList.isEmpty = false := by
      cases hh : s.toList with
      | nil => exact absurd hh e0
      | cons _ _ => rfl
    clear c0
    by_cases c1 : s.size ≤ 32
    · have d1 : decide (32 < (s.size : Int)) = false := decide_eq_false (by omega)
      have d2 : decide (32 < s.size) = false := decide_eq_false (by omega)
      have hx6 : ∀ h : 0 < s.size, ((s[0]'h).toNat : Int) = bt s 0 := bt_at s 0
      have q6 : (0 < s.size) = True := eq_true q1
      have q7 : (0 < (s.size : Int)) = True := eq_true (by omega)
      by_cases c2 : 97 ≤ bt s 0
      · have d3 : decide (bt s 0 < 97) = false := decide_eq_false (by omega)
        by_cases c3 : bt s 0 ≤ 122
        · have d4 : decide (122 < bt s 0) = false := decide_eq_false (by omega)
          have H := Aside0.mk (show nameB s = allB s from by unfold nameB; rw [decide_eq_true ⟨q1, c1⟩, decide_eq_true ⟨c2, c3⟩]; simp)
          clear c1 c2 c3
          cases ha : allB s with
          | true =>
            have HB := Aside0.mk ha
            clear ha
            go_enter Tryz.func41, Tryz.ntmps41
            go_wp2_with (go_at_call 65; refine (HA0.out _).mono ?_; rintro e w2 ⟨rfl, hd⟩; rw [HB.out])
            go_ret
            exact ⟨by rw [H.out, HB.out]; rfl, by repeat (first | exact Drawn0.refl _ | exact hd | apply Drawn0.step)⟩
          | false =>
            have HB := Aside0.mk ha
            clear ha
            go_enter Tryz.func41, Tryz.ntmps41
            go_wp2_with (go_at_call 65; refine (HA0.out _).mono ?_; rintro e w2 ⟨rfl, hd⟩; rw [HB.out])
            go_ret
            exact ⟨by rw [H.out, HB.out]; rfl, by repeat (first | exact Drawn0.refl _ | exact hd | apply Drawn0.step)⟩
        · have d4 : decide (122 < bt s 0) = true := decide_eq_true (by omega)
          have H := Aside0.mk (show nameB s = false from by unfold nameB; rw [decide_eq_false (show ¬ (97 ≤ bt s 0 ∧ bt s 0 ≤ 122) by omega)]; simp)
          clear c1 c2 c3
          go_enter Tryz.func41, Tryz.ntmps41
          go_wp2
          go_ret
          exact ⟨by rw [H.out]; rfl, by repeat (first | exact Drawn0.refl _ | apply Drawn0.step)⟩
      · have d3 : decide (bt s 0 < 97) = true := decide_eq_true (by omega)
        have H := Aside0.mk (show nameB s = false from by unfold nameB; rw [decide_eq_false (show ¬ (97 ≤ bt s 0 ∧ bt s 0 ≤ 122) by omega)]; simp)
        clear c1 c2
        go_enter Tryz.func41, Tryz.ntmps41
        go_wp2
        go_ret
        exact ⟨by rw [H.out]; rfl, by repeat (first | exact Drawn0.refl _ | apply Drawn0.step)⟩
    · have d1 : decide (32 < (s.size : Int)) = true := decide_eq_true (by omega)
      have d2 : decide (32 < s.size) = true := decide_eq_true (by omega)
      have H := Aside0.mk (show nameB s = false from by unfold nameB; rw [decide_eq_false (show ¬ (1 ≤ s.size ∧ s.size ≤ 32) by omega)]; simp)
      go_enter Tryz.func41, Tryz.ntmps41
      go_wp2
      go_ret
      exact ⟨by rw [H.out]; rfl, by repeat (first | exact Drawn0.refl _ | apply Drawn0.step)⟩
def names_Check.f (s : ByteArray) : Option Int := if s.size ≤ 140737488351232 then some (errN (nameB s)) else none
theorem names_Check.calls (a0 : ByteArray) (r : Int) (w : World) (h : names_Check.f a0 = some r) : Calls Tryz.prog 41 #[.string a0] w fun e w' => e = .returned (.int .i64 r) ∧ Below w.heap.size w w' := by
  unfold names_Check.f at h
  split at h
  · rename_i hs
    cases h
    exact (Check_calls a0 w hs).mono fun e w' h => ⟨h.1, h.2.below⟩
  · cases h
end Go.Proofs.YtkjnbfjbdlcehaaGreatDoor.P
