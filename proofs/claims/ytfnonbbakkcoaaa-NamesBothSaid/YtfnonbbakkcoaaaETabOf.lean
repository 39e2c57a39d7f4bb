/- names.Table: New, Of, Name. -/
import Derived.Test.YtfnonbbakkcoaaaETable
namespace Go.Proofs.Ytfnonbbakkcoaaa.P
open Go.RowKit Go.Proofs.YtfnonbbakkcoaaaW.PrintWords Go.Proofs.YtfnonbbakkcoaaaW.PrintLast Go.Proofs.YtfnonbbakkcoaaaW.PrintMore Go.Maps
set_option linter.unusedVariables false
set_option linter.unusedSimpArgs false
set_option maxRecDepth 100000 in
set_option maxHeartbeats 1000000 in
theorem Of_calls (p : Nat) (S : Nat → Prop) (l : List ByteArray) (s : ByteArray) (hs : s.size ≤ maxLen) (w : World) (h : TbO w p S l) :
    Calls Try.prog 16 #[.pointer (some ⟨p, 0, none⟩), .string s] w fun e w' =>
      e = .returned (match nidx l s with | some i => .tuple #[.int .i64 (i : Int), .int .i64 0] | none => .tuple #[.int .i64 0, .int .i64 11]) ∧ Below w.heap.size w w' := by
  obtain ⟨q, n, F, v, h⟩ := h
  have q1 := h.c1
  have hlk := h.look s hs
  have HN := Aside0.mk (none_no p q w q1)
  clear h
  cases hn : nidx l s with
  | some i =>
    rw [hn] at hlk
    have hlk2 : (Instr.lookup 42 (.map (some q)) (.string s) true).run Try.prog w = .ok (.tuple #[.agg #[.int .i64 (i : Int)], .bool true]) w := hlk
    clear hlk
    clear hn
    go_enter Try.func16, Try.ntmps16
    go_wp2_with fail
    refine HN.out.mono ?_
    rintro e w1 ⟨rfl, rfl⟩
    go_wp2
    go_ret2
    exact ⟨rfl, by repeat (first | exact Below.refl _ _ | apply below_alloc | apply below_drew1 | apply pw_below_drewN)⟩
  | none =>
    rw [hn] at hlk
    have hlk2 : (Instr.lookup 42 (.map (some q)) (.string s) true).run Try.prog w = .ok (.tuple #[.agg #[.int .i64 0], .bool false]) w := hlk
    clear hlk
    clear hn
    go_enter Try.func16, Try.ntmps16
    go_wp2_with fail
    refine HN.out.mono ?_
    rintro e w1 ⟨rfl, rfl⟩
    go_wp2
    go_ret2
    exact ⟨rfl, by repeat (first | exact Below.refl _ _ | apply below_alloc | apply below_drew1 | apply pw_below_drewN)⟩
def nameV (l : List ByteArray) (n : Int) : Value := if 0 ≤ n ∧ n < (l.length : Int) then .tuple #[.string (rdOf ByteArray.empty l n), .int .i64 0] else .tuple #[.string ⟨#[]⟩, .int .i64 3]
set_option maxRecDepth 100000 in
set_option maxHeartbeats 1000000 in
theorem Name_calls (p : Nat) (S : Nat → Prop) (l : List ByteArray) (x : Int) (w : World) (h : TbO w p S l) :
    Calls Try.prog 18 #[.pointer (some ⟨p, 0, none⟩), .int .i64 x] w fun e w' => e = .returned (nameV l x) ∧ Drawn0 w w' := by
  obtain ⟨q, n, F, v, h⟩ := h
  obtain ⟨A, c, rfl, hc, hC⟩ := Kd.R_reads h.row
  have q0 := h.c0
  have q1 := h.c1
  have HN := Aside0.mk (none_no p q w q1)
  clear h
  by_cases c1 : x < 0
  · have H := Aside0.mk (show nameV l x = .tuple #[.string ⟨#[]⟩, .int .i64 3] from if_neg (by omega))
    have d1 := decide_eq_true c1
    clear c1 hC hc
    go_enter Try.func18, Try.ntmps18
    go_wp2_with fail
    refine HN.out.mono ?_
    rintro e w1 ⟨rfl, rfl⟩
    go_wp2
    go_ret2
    exact ⟨by rw [H.out]; rfl, by repeat (first | exact Drawn0.refl _ | apply Drawn0.step)⟩
  · have d1 := decide_eq_false c1
    by_cases c2 : x < (l.length : Int)
    · have H := Aside0.mk (show nameV l x = .tuple #[.string (rdOf ByteArray.empty l x), .int .i64 0] from if_pos ⟨by omega, c2⟩)
      have d2 : decide ((l.length : Int) ≤ x) = false := decide_eq_false (by omega)
      obtain ⟨ad, rfl, hcell⟩ := Kd.at_string hC x (by omega) c2
      have b1 : (0 : Int) ≤ x := by omega
      have b2 : x < (l.length : Int) := c2
      clear hC hc c1
      go_enter Try.func18, Try.ntmps18
      go_wp2_with fail
      refine HN.out.mono ?_
      rintro e w1 ⟨rfl, rfl⟩
      go_wp2
      go_ret2
      exact ⟨by rw [H.out]; rfl, by repeat (first | exact Drawn0.refl _ | apply Drawn0.step)⟩
    · have H := Aside0.mk (show nameV l x = .tuple #[.string ⟨#[]⟩, .int .i64 3] from if_neg (by omega))
      have d2 : decide ((l.length : Int) ≤ x) = true := decide_eq_true (by omega)
      clear c1 c2 hC hc
      go_enter Try.func18, Try.ntmps18
      go_wp2_with fail
      refine HN.out.mono ?_
      rintro e w1 ⟨rfl, rfl⟩
      go_wp2
      go_ret2
      exact ⟨by rw [H.out]; rfl, by repeat (first | exact Drawn0.refl _ | apply Drawn0.step)⟩
theorem TbO.made (w : World) : TbO ((w.alloc (.map #[] 0)).alloc (.cells #[.slice none 0 0, .map (some w.heap.size)] 44)) (w.heap.size + 1) (fun k => w.heap.size ≤ k) [] := by
  have hsz : (w.alloc (.map #[] 0)).heap.size = w.heap.size + 1 := by simp
  refine ⟨w.heap.size, 0, fun _ => none, .slice none 0 0, ?_, Nat.le_succ _, Nat.le_refl _, by omega, Nat.le_refl _, ?_, fun s => rfl, Kd.R_nil _ _ _ _ _⟩
  · rw [← hsz]
    exact blk_new _ _
  · exact (MapF.made w Try.prog 9).move ((below_alloc (Below.refl _ _) _).block _ (by rw [hsz]; omega))
set_option maxRecDepth 100000 in
set_option maxHeartbeats 1000000 in
theorem New_calls (w : World) :
    Calls Try.prog 10 #[] w fun e w' => ∃ p, e = .returned (.pointer (some ⟨p, 0, none⟩)) ∧ w.heap.size ≤ p ∧ TbO w' p (fun k => w.heap.size ≤ k) [] ∧ Below w.heap.size w w' := by
  have hmm := @run_makeMap Try.prog
  have HM := Aside0.mk (TbO.made w)
  go_enter Try.func10, Try.ntmps10
  go_wp2
  go_ret
  refine ⟨_, rfl, ?_, HM.out, ?_⟩
  · simp
  · exact below_alloc (below_alloc (Below.refl _ _) _) _
end Go.Proofs.Ytfnonbbakkcoaaa.P
