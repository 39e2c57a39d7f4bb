/- armisticelaw03.NamesNone: a table that is nil, or that nobody made. -/
import Derived.Test.YtfnonbbakkcoaaaEAwake03
namespace Go.Proofs.Ytfnonbbakkcoaaa.P
open Go.RowKit Go.Proofs.YtfnonbbakkcoaaaW.PrintWords Go.Proofs.YtfnonbbakkcoaaaW.PrintLast Go.Proofs.YtfnonbbakkcoaaaW.PrintMore Go.Maps
set_option linter.unusedVariables false
set_option linter.unusedSimpArgs false
/-- No table: nil, or none that was made. -/
def NoT (w : World) (v : Value) : Prop := v = .pointer none ∨ ∃ p, v = .pointer (some ⟨p, 0, none⟩) ∧ w.cell? ⟨p, 1, none⟩ = some (.map none)
theorem NoT.below {w w' : World} {v : Value} (h : NoT w v) (hb : Below w.heap.size w w') : NoT w' v := by
  rcases h with h | ⟨p, h, hc⟩
  · exact .inl h
  · exact .inr ⟨p, h, (hb.cell (World.block_lt_of_cell? w _ hc)).trans hc⟩
theorem none_yes {w : World} {v : Value} (h : NoT w v) : Calls Try.prog 28 #[v] w fun e w' => e = .returned (.bool true) ∧ w' = w := by
  rcases h with rfl | ⟨p, rfl, hc⟩
  · exact none_nil w
  · exact none_zero p w hc
theorem Add_none (v : Value) (s : ByteArray) (w : World) (h : NoT w v) : Calls Try.prog 12 #[v, .string s] w fun e w' => e = .returned (.tuple #[.int .i64 0, .int .i64 1]) ∧ w' = w := by
  have HN := Aside0.mk (none_yes h)
  go_enter Try.func12, Try.ntmps12
  go_wp2_with fail
  refine HN.out.mono ?_
  rintro e w1 ⟨rfl, rfl⟩
  go_wp2
  go_ret2
  exact ⟨rfl, rfl⟩
theorem Of_none (v : Value) (s : ByteArray) (w : World) (h : NoT w v) : Calls Try.prog 16 #[v, .string s] w fun e w' => e = .returned (.tuple #[.int .i64 0, .int .i64 1]) ∧ w' = w := by
  have HN := Aside0.mk (none_yes h)
  go_enter Try.func16, Try.ntmps16
  go_wp2_with fail
  refine HN.out.mono ?_
  rintro e w1 ⟨rfl, rfl⟩
  go_wp2
  go_ret2
  exact ⟨rfl, rfl⟩
theorem Name_none (v : Value) (n : Int) (w : World) (h : NoT w v) : Calls Try.prog 18 #[v, .int .i64 n] w fun e w' => e = .returned (.tuple #[.string ⟨#[]⟩, .int .i64 1]) ∧ w' = w := by
  have HN := Aside0.mk (none_yes h)
  go_enter Try.func18, Try.ntmps18
  go_wp2_with fail
  refine HN.out.mono ?_
  rintro e w1 ⟨rfl, rfl⟩
  go_wp2
  go_ret2
  exact ⟨rfl, rfl⟩
theorem Len_none (v : Value) (w : World) (h : NoT w v) : Calls Try.prog 11 #[v] w fun e w' => e = .returned (.int .i64 0) ∧ w' = w := by
  have HN := Aside0.mk (none_yes h)
  go_enter Try.func11, Try.ntmps11
  go_wp2_with fail
  refine HN.out.mono ?_
  rintro e w1 ⟨rfl, rfl⟩
  go_wp2
  go_ret
  exact ⟨rfl, rfl⟩
theorem Order_none (v : Value) (hv : v.oneCell' = true) (w : World) (h : NoT w v) : Calls Try.prog 20 #[v] w fun e w' => e = .returned (.slice none 0 0) ∧ Below w.heap.size w w' := by
  have HB := Aside0.mk (below_alloc (Below.refl w.heap.size w) (.cells #[v] 25))
  have HN := Aside0.mk (none_yes (h.below HB.out))
  rcases h with rfl | ⟨p, rfl, hc⟩
  · go_enter Try.func20, Try.ntmps20
    go_wp2_with fail
    refine HN.out.mono ?_
    rintro e w1 ⟨rfl, rfl⟩
    go_wp2
    go_ret
    exact ⟨rfl, HB.out⟩
  · clear hc
    go_enter Try.func20, Try.ntmps20
    go_wp2_with fail
    refine HN.out.mono ?_
    rintro e w1 ⟨rfl, rfl⟩
    go_wp2
    go_ret
    exact ⟨rfl, HB.out⟩
set_option maxHeartbeats 2000000 in
set_option maxRecDepth 100000 in
theorem None_calls (s : ByteArray) (n : Int) (w : World) : Calls Try.prog 4 #[.string s, .int .i64 n] w fun e w' => e = .returned (.bool true) ∧ Below w.heap.size w w' := by
  go_enter Try.func4, Try.ntmps4
  by_cases c : (60 : Int) < (s.size : Int)
  · have c1 := decide_eq_true c
    go_wp2_with fail
    refine (awake_calls w).mono ?_
    rintro e w1 ⟨rfl, hb⟩
    go_wp2
    go_ret
    exact ⟨rfl, hb⟩
  · have c1 := decide_eq_false c
    go_wp2_with fail
    have hb1 := blk_new (w.alloc (.cells #[.slice none 0 0, .map none] 44)) (.cells #[.pointer none, .pointer (some ⟨w.heap.size, 0, none⟩)] 25)
    rw [show (w.alloc (.cells #[.slice none 0 0, .map none] 44)).heap.size = w.heap.size + 1 by simp] at hb1
    have HB0 := Aside0.mk (below_alloc (below_alloc (Below.refl w.heap.size w) (.cells #[.slice none 0 0, .map none] 44)) (.cells #[.pointer none, .pointer (some ⟨w.heap.size, 0, none⟩)] 25))
    have hb0 : ((w.alloc (.cells #[.slice none 0 0, .map none] 44)).alloc (.cells #[.pointer none, .pointer (some ⟨w.heap.size, 0, none⟩)] 25)).heap[w.heap.size]? = some (.cells #[.slice none 0 0, .map none] 44 (0, 0)) := by
      rw [Below.heap_alloc _ _ _ (by simp)]
      exact blk_new w _
    obtain ⟨w1, hw1⟩ : ∃ w1 : World, (w.alloc (.cells #[.slice none 0 0, .map none] 44)).alloc (.cells #[.pointer none, .pointer (some ⟨w.heap.size, 0, none⟩)] 25) = w1 := ⟨_, rfl⟩
    rw [hw1] at hb0 hb1 HB0 ⊢
    clear hw1
    have H0 := Aside0.mk hb0
    have H1 := Aside0.mk hb1
    clear hb0 hb1 c1
    go_loopg [6] 3 (fun g v6 wr => ∃ k : Nat, k ≤ 2 ∧ Aside0 (k + g = 3) ∧ v6 = .int .i64 k ∧ Aside0 (Below w1.heap.size w1 wr))
    case atStart => exact ⟨0, by omega, ⟨by omega⟩, rfl, ⟨Below.refl _ _⟩⟩
    case round =>
      obtain ⟨k, hk, hg, rfl, hB⟩ := hrel
      by_cases c1 : k < 2
      · have hV : ∃ v : Value, v.oneCell' = true ∧ w1.cell? ⟨w.heap.size + 1, k, none⟩ = some v ∧ NoT w1 v := by
          rcases Nat.lt_or_ge k 1 with h | h
          · obtain rfl : k = 0 := by omega
            exact ⟨_, rfl, (blk_cell H1.out 0).trans rfl, .inl rfl⟩
          · obtain rfl : k = 1 := by omega
            exact ⟨_, rfl, (blk_cell H1.out 1).trans rfl, .inr ⟨_, rfl, (blk_cell H0.out 1).trans rfl⟩⟩
        obtain ⟨v, hv1, hv2, hv3⟩ := hV
        have HV := Aside0.mk (fun w' (hb : Below w1.heap.size w1 w') => hv3.below hb)
        have hcl : wr.cell? ⟨w.heap.size + 1, k, none⟩ = some v := (hB.out.cell (World.block_lt_of_cell? w1 _ hv2)).trans hv2
        have HCE := Aside0.mk hv2
        have b0 := decide_eq_true (show ((k : Nat) : Int) < 2 by omega)
        have b1 : (0 : Int) ≤ (k : Int) := by omega
        have b2 : (k : Int) < 2 := by omega
        clear hv2 hv3
        go_wp2_with fail
        refine (Add_none v s wr (HV.out wr hB.out)).mono ?_
        rintro e w2 ⟨rfl, rfl⟩
        go_wp2_with fail
        refine (Of_none v s w2 (HV.out w2 hB.out)).mono ?_
        rintro e w3 ⟨rfl, rfl⟩
        go_wp2_with fail
        refine (Name_none v n w3 (HV.out w3 hB.out)).mono ?_
        rintro e w4 ⟨rfl, rfl⟩
        go_wp2_with fail
        refine (Len_none v w4 (HV.out w4 hB.out)).mono ?_
        rintro e w5 ⟨rfl, rfl⟩
        go_wp2_with fail
        refine (Order_none v hv1 w5 (HV.out w5 hB.out)).mono ?_
        rintro e w6 ⟨rfl, hb⟩
        have HB6 := Aside0.mk (hB.out.trans (hb.mono hB.out.size))
        clear hb
        go_wp2
        go_roundg (gk - 1)
        case measure => have := hg.out; omega
        case rel => exact ⟨k + 1, by omega, ⟨by have := hg.out; omega⟩, by go_num, HB6⟩
      · have b0 := decide_eq_false (show ¬ ((k : Nat) : Int) < 2 by omega)
        go_wp2_with fail
        refine (awake_calls wr).mono ?_
        rintro e w2 ⟨rfl, hb⟩
        go_wp2
        go_ret
        exact ⟨rfl, HB0.out.trans ((hB.out.trans (hb.mono hB.out.size)).mono HB0.out.size)⟩
end Go.Proofs.Ytfnonbbakkcoaaa.P
