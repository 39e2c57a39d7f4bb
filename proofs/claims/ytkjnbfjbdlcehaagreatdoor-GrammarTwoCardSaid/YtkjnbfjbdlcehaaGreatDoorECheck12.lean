/- grammar.Check: why an event may not be. -/
import Derived.Test.YtkjnbfjbdlcehaaGreatDoorECheck03
import Derived.Test.YtkjnbfjbdlcehaaGreatDoorECheck
import Derived.Test.YtkjnbfjbdlcehaaGreatDoorZESCheck
import Derived.Test.YtkjnbfjbdlcehaaGreatDoorKH
import Derived.Test.YtkjnbfjbdlcehaaGreatDoorPx1
namespace Go.Proofs.YtkjnbfjbdlcehaaGreatDoor.P
open Go.RowKit Go.Proofs.YtkjnbfjbdlcehaaGreatDoorW.PrintWords Go.Proofs.YtkjnbfjbdlcehaaGreatDoorW.PrintLast Go.Proofs.YtkjnbfjbdlcehaaGreatDoorW.PrintMore
set_option linter.unusedVariables false
set_option linter.unusedSimpArgs false
def emptyS (t n : Int) (l : List Int) : Bool := t == 0 && (n == 0 && (l.length : Int) == 0)
def opZero (k a b rk rn : Int) : Bool := k == 0 && (a == 0 && (b == 0 && (rk == 0 && rn == 0)))
def grammar_Check.f (x0 : Int) (x1 x2 : ByteArray) (x3 x4 x5 x6 x7 x8 x9 : Int) (l : List Int) : Option Int :=
  if x1.size ≤ 140737488351232 ∧ x2.size ≤ 140737488351232 then
    if 1 ≤ x0 ∧ x0 ≤ 5 then
      if (x0 ≠ 1 ∧ emptyS x8 x9 l = false) ∨ (x0 ≠ 3 ∧ (x2.size ≠ 0 ∨ opZero x3 x4 x5 x6 x7 = false)) then some 2
      else if nameB x1 = false ∨ (x0 = 3 ∧ nameB x2 = false) then some 7
      else if x0 = 3 then operation_Check.f x3 x4 x5 x6 x7
      else if x0 = 1 then (state_Check.f x8 x9 l).bind fun e => if e = 0 then (if 1000 < l.length then some 4 else some 0) else some e
      else some 0
    else some 6
  else none
theorem op_no {x3 x4 x5 x6 x7 : Int} (h : opZero x3 x4 x5 x6 x7 = true) : x3 = 0 ∧ x4 = 0 ∧ x5 = 0 ∧ x6 = 0 ∧ x7 = 0 := by simpa [opZero] using h
theorem op_yes {x3 x4 x5 x6 x7 : Int} (h : ¬ opZero x3 x4 x5 x6 x7 = true) : (x3 == 0) = false ∨ ((x3 == 0) = true ∧ (x4 == 0) = false) ∨ ((x3 == 0) = true ∧ (x4 == 0) = true ∧ (x5 == 0) = false) ∨ ((x3 == 0) = true ∧ (x4 == 0) = true ∧ (x5 == 0) = true ∧ (x6 == 0) = false) ∨ ((x3 == 0) = true ∧ (x4 == 0) = true ∧ (x5 == 0) = true ∧ (x6 == 0) = true ∧ (x7 == 0) = false) := by
  revert h
  unfold opZero
  cases (x3 == 0) <;> cases (x4 == 0) <;> cases (x5 == 0) <;> cases (x6 == 0) <;> cases (x7 == 0) <;> simp
theorem toList_empty (s : ByteArray) : (s.toList == ([] : List UInt8)) = decide (s.size = 0) := by
  rw [show s.toList = s.data.toList from ByteArray.toList_eq s, Bool.eq_iff_iff, beq_iff_eq, decide_eq_true_iff, show s.size = s.data.toList.length from rfl, List.length_eq_zero_iff]
set_option maxHeartbeats 4000000 in
set_option maxRecDepth 100000 in
theorem grammar_Check.calls (x0 : Int) (x1 x2 : ByteArray) (x3 x4 x5 x6 x7 x8 x9 : Int) (A : Option Addr) (c : Nat) (l : List Int) (r : Int) (w : World) (hr : Kd.C (Kd.int .i64) w A l.length l) (hc : l.length ≤ c) (h : grammar_Check.f x0 x1 x2 x3 x4 x5 x6 x7 x8 x9 l = some r) :
    Calls Tryz.prog 17 #[.agg #[.int .i64 x0, .string x1, .string x2, .int .i64 x3, .int .i64 x4, .int .i64 x5, .int .i64 x6, .int .i64 x7, .int .i64 x8, .int .i64 x9, .slice A l.length c]] w fun e w' => e = .returned (.int .i64 r) ∧ Below w.heap.size w w' := by
  unfold grammar_Check.f at h
  by_cases hsz : x1.size ≤ 140737488351232 ∧ x2.size ≤ 140737488351232
  · rw [if_pos hsz] at h
    have HN := Aside0.mk (fun w' => Check_calls x1 w' hsz.1)
    have HO := Aside0.mk (fun w' => Check_calls x2 w' hsz.2)
    have HP := Aside0.mk (fun r w' (hh : operation_Check.f x3 x4 x5 x6 x7 = some r) => operation_Check.calls x3 x4 x5 x6 x7 r w' hh)
    have HS := Aside0.mk (fun r w' (hb : Below w.heap.size w w') (hh : state_Check.f x8 x9 l = some r) => state_Check.calls x8 x9 A c l r w' (Kd.C_below hr hb) hc hh)
    have HH := Aside0.mk h
    obtain ⟨n, hn⟩ : ∃ n, l.length = n := ⟨_, rfl⟩
    have HE : Aside0 (emptyS x8 x9 l = (x8 == 0 && (x9 == 0 && (n : Int) == 0))) := ⟨by rw [emptyS, hn]⟩
    rw [hn] at HS ⊢
    have HL := Aside0.mk hn
    clear hr hc h hsz hn
    go_enter Tryz.func17, Tryz.ntmps17
    go_upto_region 1 with (fail)
    have hbk := blk_new w (.cells #[.int .i64 x0, .string x1, .string x2, .int .i64 x3, .int .i64 x4, .int .i64 x5, .int .i64 x6, .int .i64 x7, .int .i64 x8, .int .i64 x9, .slice A n c] 38)
    have HB1 := Aside0.mk (below_alloc (Below.refl w.heap.size w) (.cells #[.int .i64 x0, .string x1, .string x2, .int .i64 x3, .int .i64 x4, .int .i64 x5, .int .i64 x6, .int .i64 x7, .int .i64 x8, .int .i64 x9, .slice A n c] 38))
    obtain ⟨w1, hw1⟩ : ∃ w1 : World, w.alloc (.cells #[.int .i64 x0, .string x1, .string x2, .int .i64 x3, .int .i64 x4, .int .i64 x5, .int .i64 x6, .int .i64 x7, .int .i64 x8, .int .i64 x9, .slice A n c] 38) = w1 := ⟨_, rfl⟩
    rw [hw1] at hbk HB1 ⊢
    have f0 := (blk_cell hbk 0).trans rfl
    have f1 := (blk_cell hbk 1).trans rfl
    have f2 := (blk_cell hbk 2).trans rfl
    have f3 := (blk_cell hbk 3).trans rfl
    have f4 := (blk_cell hbk 4).trans rfl
    have f5 := (blk_cell hbk 5).trans rfl
    have f6 := (blk_cell hbk 6).trans rfl
    have f7 := (blk_cell hbk 7).trans rfl
    have f8 := (blk_cell hbk 8).trans rfl
    have f9 := (blk_cell hbk 9).trans rfl
    have f10 := (blk_cell hbk 10).trans rfl
    have F10 := Aside0.mk (show ∀ k w', Below (w1.drewN k).heap.size (w1.drewN k) w' → w'.cell? ⟨w.heap.size, 10, none⟩ = some (.slice A n c) from fun k w' hb => (((pw_below_drewN (Below.refl w1.heap.size w1) k).trans (hb.mono (Nat.le_refl _))).cell (p := ⟨w.heap.size, 10, none⟩) (World.block_lt_of_cell? w1 _ f10)).trans f10)
    clear hw1 hbk
    go_upto_region 2 with (fail)
    go_quiet (fail)
    go_upto_region 2 with (fail)
    (try simp only [Act.put, List.setIfInBounds_toArray, List.set_cons_zero, List.set_cons_succ])
    go_cut [5] (fun v5 wc => ∃ b5 : Bool, v5 = .bool b5 ∧ Aside0 (b5 = emptyS x8 x9 l) ∧ Aside0 (Drawn0 w1 wc))
    case first =>
      by_cases c8 : x8 = 0
      · have d8 : (x8 == 0) = true := beq_iff_eq.mpr c8
        by_cases c9 : x9 = 0
        · have d9 : (x9 == 0) = true := beq_iff_eq.mpr c9
          clear c8 c9
          go_wp2
          go_meet
          case rel => exact ⟨_, rfl, ⟨by rw [HE.out, d8, d9]; simp⟩, ⟨by repeat (first | exact Drawn0.refl _ | apply Drawn0.step)⟩⟩
        · have d9 : (x9 == 0) = false := beq_eq_false_iff_ne.mpr c9
          clear c8 c9
          go_wp2
          go_meet
          case rel => exact ⟨_, rfl, ⟨by rw [HE.out, d8, d9]; simp⟩, ⟨by repeat (first | exact Drawn0.refl _ | apply Drawn0.step)⟩⟩
      · have d8 : (x8 == 0) = false := beq_eq_false_iff_ne.mpr c8
        clear c8
        go_wp2
        go_meet
        case rel => exact ⟨_, rfl, ⟨by rw [HE.out, d8]; simp⟩, ⟨by repeat (first | exact Drawn0.refl _ | apply Drawn0.step)⟩⟩
    case rest =>
      obtain ⟨b5, rfl, he, hd⟩ := hcut
      obtain ⟨m, hm⟩ := hd.out.out
      obtain rfl := hm
      have h := HH.out
      clear hd HE

      by_cases hk : 1 ≤ x0 ∧ x0 ≤ 5
      · rw [if_pos hk] at h
        have hx : x0 = 1 ∨ x0 = 3 ∨ (x0 = 2 ∨ x0 = 4 ∨ x0 = 5) := by omega
        clear hk
        rcases hx with rfl | rfl | hx
        · have HW := Aside0.mk (show grammar_word.f 1 = some (⟨#[111, 98, 106, 101, 99, 116]⟩ : ByteArray) from rfl)
          by_cases c2 : x2.size = 0
          · have e2 : (x2.toList == ([] : List UInt8)) = true := by rw [toList_empty, decide_eq_true c2]
            have e2' : (x2.toList != ([] : List UInt8)) = false := by rw [bne, e2]; rfl
            by_cases co : opZero x3 x4 x5 x6 x7 = true
            · obtain ⟨rfl, rfl, rfl, rfl, rfl⟩ := op_no co
              by_cases cn : nameB x1 = true
              · rw [if_neg (by simp [c2, co]), if_neg (by simp [cn])] at h
                have HN2 := HN.out
                simp only [cn, errN, if_true, if_false, Bool.false_eq_true] at HN2
                replace HN2 := Aside0.mk HN2
                clear cn co c2
                rw [if_neg (by decide), if_pos rfl] at h
                obtain ⟨e, hs, h⟩ := Option.bind_eq_some_iff.1 h
                by_cases ce : e = 0
                · subst ce
                  rw [if_pos rfl] at h
                  by_cases cl : 1000 < l.length
                  · rw [if_pos cl] at h
                    obtain rfl := Option.some.inj h
                    have hl := HL.out
                    have dl := decide_eq_true (show (1000 : Int) < (n : Int) by omega)
                    have dl2 := decide_eq_true (show 1000 < n by omega)
                    have HSS := Aside0.mk (fun w' (hb : Below w.heap.size w w') => HS.out _ w' hb hs)
                    clear hs cl hl h
                    go_wp2_with (first | (go_at_call 34; with_reducible refine (grammar_word.calls _ _ _ HW.out).mono ?_; rintro e' w' ⟨rfl, ⟨nd, rfl⟩⟩) | (go_at_call 41; with_reducible refine (HN2.out _).mono ?_; rintro e' w' ⟨rfl, ⟨nd, rfl⟩⟩) | (go_at_call 43; with_reducible refine (HSS.out _ (by repeat (first | exact HB1.out | apply pw_below_drewN | apply below_drew1))).mono ?_; rintro e' w6 ⟨rfl, hb6⟩; have HB6 := Aside0.mk (((by repeat (first | exact HB1.out | apply pw_below_drewN | apply below_drew1)) : Below w.heap.size w _).trans (hb6.mono ((by repeat (first | exact HB1.out | apply pw_below_drewN | apply below_drew1)) : Below w.heap.size w _).size)); have g10 := F10.out _ w6 hb6; clear hb6))
                    go_ret
                    exact ⟨rfl, by repeat (first | exact HB6.out | apply pw_below_drewN | apply below_drew1)⟩
                  · rw [if_neg cl] at h
                    obtain rfl := Option.some.inj h
                    have hl := HL.out
                    have dl := decide_eq_false (show ¬ (1000 : Int) < (n : Int) by omega)
                    have dl2 := decide_eq_false (show ¬ 1000 < n by omega)
                    have HSS := Aside0.mk (fun w' (hb : Below w.heap.size w w') => HS.out _ w' hb hs)
                    clear hs cl hl h
                    go_wp2_with (first | (go_at_call 34; with_reducible refine (grammar_word.calls _ _ _ HW.out).mono ?_; rintro e' w' ⟨rfl, ⟨nd, rfl⟩⟩) | (go_at_call 41; with_reducible refine (HN2.out _).mono ?_; rintro e' w' ⟨rfl, ⟨nd, rfl⟩⟩) | (go_at_call 43; with_reducible refine (HSS.out _ (by repeat (first | exact HB1.out | apply pw_below_drewN | apply below_drew1))).mono ?_; rintro e' w6 ⟨rfl, hb6⟩; have HB6 := Aside0.mk (((by repeat (first | exact HB1.out | apply pw_below_drewN | apply below_drew1)) : Below w.heap.size w _).trans (hb6.mono ((by repeat (first | exact HB1.out | apply pw_below_drewN | apply below_drew1)) : Below w.heap.size w _).size)); have g10 := F10.out _ w6 hb6; clear hb6))
                    go_ret
                    exact ⟨rfl, by repeat (first | exact HB6.out | apply pw_below_drewN | apply below_drew1)⟩
                · rw [if_neg ce] at h
                  obtain rfl := Option.some.inj h
                  have dc : (e == 0) = false := beq_eq_false_iff_ne.mpr ce
                  have dc' : (e != 0) = true := bne_iff_ne.mpr ce
                  have HSS := Aside0.mk (fun w' (hb : Below w.heap.size w w') => HS.out _ w' hb hs)
                  clear hs ce h
                  go_wp2_with (first | (go_at_call 34; with_reducible refine (grammar_word.calls _ _ _ HW.out).mono ?_; rintro e' w' ⟨rfl, ⟨nd, rfl⟩⟩) | (go_at_call 41; with_reducible refine (HN2.out _).mono ?_; rintro e' w' ⟨rfl, ⟨nd, rfl⟩⟩) | (go_at_call 43; with_reducible refine (HSS.out _ (by repeat (first | exact HB1.out | apply pw_below_drewN | apply below_drew1))).mono ?_; rintro e' w6 ⟨rfl, hb6⟩; have HB6 := Aside0.mk (((by repeat (first | exact HB1.out | apply pw_below_drewN | apply below_drew1)) : Below w.heap.size w _).trans (hb6.mono ((by repeat (first | exact HB1.out | apply pw_below_drewN | apply below_drew1)) : Below w.heap.size w _).size)); have g10 := F10.out _ w6 hb6; clear hb6))
                  go_ret
                  exact ⟨rfl, by repeat (first | exact HB6.out | apply pw_below_drewN | apply below_drew1)⟩
              · rw [if_neg (by simp [c2, co]), if_pos (.inl (by simpa using cn))] at h
                obtain rfl := Option.some.inj h
                have HN2 := HN.out
                simp only [cn, errN, if_true, if_false, Bool.false_eq_true] at HN2
                replace HN2 := Aside0.mk HN2
                clear cn co c2
                go_wp2_with (first | (go_at_call 34; with_reducible refine (grammar_word.calls _ _ _ HW.out).mono ?_; rintro e' w' ⟨rfl, ⟨nd, rfl⟩⟩) | (go_at_call 41; with_reducible refine (HN2.out _).mono ?_; rintro e' w' ⟨rfl, ⟨nd, rfl⟩⟩))
                go_ret
                exact ⟨rfl, (by repeat (first | exact HB1.out | apply pw_below_drewN | apply below_drew1))⟩
            · have do1 := op_yes co
              rw [if_pos (.inr ⟨by decide, .inr (by simpa using co)⟩)] at h
              obtain rfl := Option.some.inj h
              clear co c2
              rcases do1 with q3 | ⟨q3, q4⟩ | ⟨q3, q4, q5⟩ | ⟨q3, q4, q5, q6⟩ | ⟨q3, q4, q5, q6, q7⟩
              all_goals
                go_wp2_with (first | (go_at_call 34; with_reducible refine (grammar_word.calls _ _ _ HW.out).mono ?_; rintro e' w' ⟨rfl, ⟨nd, rfl⟩⟩))
                go_ret
                exact ⟨rfl, (by repeat (first | exact HB1.out | apply pw_below_drewN | apply below_drew1))⟩
          · have e2 : (x2.toList == ([] : List UInt8)) = false := by rw [toList_empty, decide_eq_false c2]
            have e2' : (x2.toList != ([] : List UInt8)) = true := by rw [bne, e2]; rfl
            rw [if_pos (.inr ⟨by decide, .inl c2⟩)] at h
            obtain rfl := Option.some.inj h
            clear c2
            go_wp2_with (first | (go_at_call 34; with_reducible refine (grammar_word.calls _ _ _ HW.out).mono ?_; rintro e' w' ⟨rfl, ⟨nd, rfl⟩⟩))
            go_ret
            exact ⟨rfl, (by repeat (first | exact HB1.out | apply pw_below_drewN | apply below_drew1))⟩
        · have HW := Aside0.mk (show grammar_word.f 3 = some (⟨#[111, 112]⟩ : ByteArray) from rfl)
          cases b5 with
          | false =>
            rw [if_pos (.inl ⟨by decide, he.out.symm⟩)] at h
            obtain rfl := Option.some.inj h
            go_wp2_with (first | (go_at_call 34; with_reducible refine (grammar_word.calls _ _ _ HW.out).mono ?_; rintro e' w' ⟨rfl, ⟨nd, rfl⟩⟩))
            go_ret
            exact ⟨rfl, (by repeat (first | exact HB1.out | apply pw_below_drewN | apply below_drew1))⟩
          | true =>
            rw [if_neg (by simp [← he.out])] at h
            by_cases cn : nameB x1 = true
            · by_cases cm : nameB x2 = true
              · rw [if_neg (by simp [cn, cm]), if_pos rfl] at h
                have HN2 := HN.out
                simp only [cn, errN, if_true, if_false, Bool.false_eq_true] at HN2
                replace HN2 := Aside0.mk HN2
                have HO2 := HO.out
                simp only [cm, errN, if_true, if_false, Bool.false_eq_true] at HO2
                replace HO2 := Aside0.mk HO2
                have HPP := Aside0.mk (fun w' => HP.out _ w' h)
                clear cn cm h
                go_wp2_with (first | (go_at_call 34; with_reducible refine (grammar_word.calls _ _ _ HW.out).mono ?_; rintro e' w' ⟨rfl, ⟨nd, rfl⟩⟩) | (go_at_call 41; with_reducible refine (HN2.out _).mono ?_; rintro e' w' ⟨rfl, ⟨nd, rfl⟩⟩) | (go_at_call 41; with_reducible refine (HO2.out _).mono ?_; rintro e' w' ⟨rfl, ⟨nd, rfl⟩⟩) | (go_at_call 42; with_reducible refine (HPP.out _).mono ?_; rintro e' w6 ⟨rfl, hb6⟩; have HB6 := Aside0.mk (((by repeat (first | exact HB1.out | apply pw_below_drewN | apply below_drew1)) : Below w.heap.size w _).trans (hb6.mono ((by repeat (first | exact HB1.out | apply pw_below_drewN | apply below_drew1)) : Below w.heap.size w _).size)); clear hb6))
                go_ret
                exact ⟨rfl, by repeat (first | exact HB6.out | apply pw_below_drewN | apply below_drew1)⟩
              · rw [if_pos (.inr ⟨rfl, by simpa using cm⟩)] at h
                obtain rfl := Option.some.inj h
                have HN2 := HN.out
                simp only [cn, errN, if_true, if_false, Bool.false_eq_true] at HN2
                replace HN2 := Aside0.mk HN2
                have HO2 := HO.out
                simp only [cm, errN, if_true, if_false, Bool.false_eq_true] at HO2
                replace HO2 := Aside0.mk HO2
                clear cn cm
                go_wp2_with (first | (go_at_call 34; with_reducible refine (grammar_word.calls _ _ _ HW.out).mono ?_; rintro e' w' ⟨rfl, ⟨nd, rfl⟩⟩) | (go_at_call 41; with_reducible refine (HN2.out _).mono ?_; rintro e' w' ⟨rfl, ⟨nd, rfl⟩⟩) | (go_at_call 41; with_reducible refine (HO2.out _).mono ?_; rintro e' w' ⟨rfl, ⟨nd, rfl⟩⟩))
                go_ret
                exact ⟨rfl, (by repeat (first | exact HB1.out | apply pw_below_drewN | apply below_drew1))⟩
            · rw [if_pos (.inl (by simpa using cn))] at h
              obtain rfl := Option.some.inj h
              have HN2 := HN.out
              simp only [cn, errN, if_true, if_false, Bool.false_eq_true] at HN2
              replace HN2 := Aside0.mk HN2
              clear cn
              go_wp2_with (first | (go_at_call 34; with_reducible refine (grammar_word.calls _ _ _ HW.out).mono ?_; rintro e' w' ⟨rfl, ⟨nd, rfl⟩⟩) | (go_at_call 41; with_reducible refine (HN2.out _).mono ?_; rintro e' w' ⟨rfl, ⟨nd, rfl⟩⟩))
              go_ret
              exact ⟨rfl, (by repeat (first | exact HB1.out | apply pw_below_drewN | apply below_drew1))⟩
        · obtain ⟨t, hw, htn⟩ : ∃ t : ByteArray, grammar_word.f x0 = some t ∧ (t.toList == ([] : List UInt8)) = false := by rcases hx with rfl | rfl | rfl <;> exact ⟨_, rfl, by rw [toList_empty]; rfl⟩
          have HW := Aside0.mk hw
          have hx3 : x0 ≠ 3 := by omega
          have hx1 : x0 ≠ 1 := by omega
          have d3 : (x0 == 3) = false := beq_eq_false_iff_ne.mpr hx3
          have d1 : (x0 == 1) = false := beq_eq_false_iff_ne.mpr hx1
          clear hw hx
          rw [d1, d3]
          cases b5 with
          | false =>
            rw [if_pos (.inl ⟨hx1, he.out.symm⟩)] at h
            obtain rfl := Option.some.inj h
            go_wp2_with (first | (go_at_call 34; with_reducible refine (grammar_word.calls _ _ _ HW.out).mono ?_; rintro e' w' ⟨rfl, ⟨nd, rfl⟩⟩))
            go_ret
            exact ⟨rfl, (by repeat (first | exact HB1.out | apply pw_below_drewN | apply below_drew1))⟩
          | true =>
            by_cases c2 : x2.size = 0
            · have e2 : (x2.toList == ([] : List UInt8)) = true := by rw [toList_empty, decide_eq_true c2]
              have e2' : (x2.toList != ([] : List UInt8)) = false := by rw [bne, e2]; rfl
              by_cases co : opZero x3 x4 x5 x6 x7 = true
              · obtain ⟨rfl, rfl, rfl, rfl, rfl⟩ := op_no co
                by_cases cn : nameB x1 = true
                · rw [if_neg (by simp [c2, co, ← he.out]), if_neg (by simp [cn, hx3])] at h
                  have HN2 := HN.out
                  simp only [cn, errN, if_true, if_false, Bool.false_eq_true] at HN2
                  replace HN2 := Aside0.mk HN2
                  clear cn co c2
                  rw [if_neg hx3, if_neg hx1] at h
                  obtain rfl := Option.some.inj h
                  go_wp2_with (first | (go_at_call 34; with_reducible refine (grammar_word.calls _ _ _ HW.out).mono ?_; rintro e' w' ⟨rfl, ⟨nd, rfl⟩⟩) | (go_at_call 41; with_reducible refine (HN2.out _).mono ?_; rintro e' w' ⟨rfl, ⟨nd, rfl⟩⟩))
                  go_ret
                  exact ⟨rfl, (by repeat (first | exact HB1.out | apply pw_below_drewN | apply below_drew1))⟩
                · rw [if_neg (by simp [c2, co, ← he.out]), if_pos (.inl (by simpa using cn))] at h
                  obtain rfl := Option.some.inj h
                  have HN2 := HN.out
                  simp only [cn, errN, if_true, if_false, Bool.false_eq_true] at HN2
                  replace HN2 := Aside0.mk HN2
                  clear cn co c2
                  go_wp2_with (first | (go_at_call 34; with_reducible refine (grammar_word.calls _ _ _ HW.out).mono ?_; rintro e' w' ⟨rfl, ⟨nd, rfl⟩⟩) | (go_at_call 41; with_reducible refine (HN2.out _).mono ?_; rintro e' w' ⟨rfl, ⟨nd, rfl⟩⟩))
                  go_ret
                  exact ⟨rfl, (by repeat (first | exact HB1.out | apply pw_below_drewN | apply below_drew1))⟩
              · have do1 := op_yes co
                rw [if_pos (.inr ⟨hx3, .inr (by simpa using co)⟩)] at h
                obtain rfl := Option.some.inj h
                clear co c2
                rcases do1 with q3 | ⟨q3, q4⟩ | ⟨q3, q4, q5⟩ | ⟨q3, q4, q5, q6⟩ | ⟨q3, q4, q5, q6, q7⟩
                all_goals
                  go_wp2_with (first | (go_at_call 34; with_reducible refine (grammar_word.calls _ _ _ HW.out).mono ?_; rintro e' w' ⟨rfl, ⟨nd, rfl⟩⟩))
                  go_ret
                  exact ⟨rfl, (by repeat (first | exact HB1.out | apply pw_below_drewN | apply below_drew1))⟩
            · have e2 : (x2.toList == ([] : List UInt8)) = false := by rw [toList_empty, decide_eq_false c2]
              have e2' : (x2.toList != ([] : List UInt8)) = true := by rw [bne, e2]; rfl
              rw [if_pos (.inr ⟨hx3, .inl c2⟩)] at h
              obtain rfl := Option.some.inj h
              clear c2
              go_wp2_with (first | (go_at_call 34; with_reducible refine (grammar_word.calls _ _ _ HW.out).mono ?_; rintro e' w' ⟨rfl, ⟨nd, rfl⟩⟩))
              go_ret
              exact ⟨rfl, (by repeat (first | exact HB1.out | apply pw_below_drewN | apply below_drew1))⟩
      · rw [if_neg hk] at h
        obtain rfl := Option.some.inj h
        have HW := Aside0.mk (show grammar_word.f x0 = some (⟨#[]⟩ : ByteArray) from by unfold grammar_word.f; rw [if_neg (by omega), if_neg (by omega), if_neg (by omega), if_neg (by omega), if_neg (by omega)])
        clear hk
        go_wp2_with (first | (go_at_call 34; with_reducible refine (grammar_word.calls _ _ _ HW.out).mono ?_; rintro e' w' ⟨rfl, ⟨nd, rfl⟩⟩))
        go_ret
        exact ⟨rfl, (by repeat (first | exact HB1.out | apply pw_below_drewN | apply below_drew1))⟩
  · rw [if_neg hsz] at h
    cases h
end Go.Proofs.YtkjnbfjbdlcehaaGreatDoor.P
