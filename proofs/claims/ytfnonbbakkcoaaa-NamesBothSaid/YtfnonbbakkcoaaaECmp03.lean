/- (*names.Table).Order$1: which of two names comes first. -/
import Derived.Test.YtfnonbbakkcoaaaEOrd0
import Derived.Test.YtfnonbbakkcoaaaShelfP
namespace Go.Proofs.Ytfnonbbakkcoaaa.P
open Go.RowKit Go.Proofs.YtfnonbbakkcoaaaW.PrintWords Go.Proofs.YtfnonbbakkcoaaaW.PrintLast Go.Proofs.YtfnonbbakkcoaaaW.PrintMore Go.Maps
set_option linter.unusedVariables false
set_option linter.unusedSimpArgs false
set_option maxRecDepth 100000 in
set_option maxHeartbeats 1000000 in
theorem cmp_calls (tb p : Nat) (l : List ByteArray) (A : Option Addr) (c : Nat) (i j : Int) (hi : 0 ≤ i ∧ i < l.length) (hj : 0 ≤ j ∧ j < l.length) (W : World)
    (ht : W.cell? ⟨tb, 0, none⟩ = some (.pointer (some ⟨p, 0, none⟩))) (hp : W.cell? ⟨p, 0, none⟩ = some (.slice A l.length c)) (hC : Kd.string.C W A l.length l) :
    Calls Try.prog 32 #[.int .i64 i, .int .i64 j, .pointer (some ⟨tb, 0, none⟩)] W fun e w' => e = .returned (.int .i64 (cmpN l i j)) ∧ ∃ m, w' = W.drewN m := by
  obtain ⟨ad, rfl, h1⟩ := Kd.at_string hC i hi.1 hi.2
  obtain ⟨ad2, e2, h2⟩ := Kd.at_string hC j hj.1 hj.2
  cases e2
  obtain ⟨i1, i2⟩ := hi
  obtain ⟨j1, j2⟩ := hj
  have HS := Aside0.mk (fun w' => Try.strings_Compare (rdOf ByteArray.empty l i) (rdOf ByteArray.empty l j) w')
  clear hC
  unfold cmpN
  generalize Lib.compareBytes (rdOf ByteArray.empty l i).data.toList (rdOf ByteArray.empty l j).data.toList = r at HS ⊢
  go_enter Try.func32, Try.ntmps32
  go_wp2_with fail
  go_quiet ((go_at_call 33; exact Calls.quiet_of_same (HS.out _)))
  go_wp2
  go_ret
  exact ⟨rfl, _, rfl⟩
end Go.Proofs.Ytfnonbbakkcoaaa.P
