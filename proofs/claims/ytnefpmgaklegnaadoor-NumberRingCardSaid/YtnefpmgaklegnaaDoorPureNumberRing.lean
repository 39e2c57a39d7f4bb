import Derived.Test.YtnefpmgaklegnaaDoorMSums
import Derived.Test.YtnefpmgaklegnaaDoorPureNumberKnown
import Derived.Test.YtnefpmgaklegnaaDoorPx7
namespace Go.Proofs.YtnefpmgaklegnaaDoor.Pure
open Go.RowKit Go.Proofs.YtnefpmgaklegnaaDoor.P Go.Proofs.YtnefpmgaklegnaaDoorW.PrintWords Go.Proofs.YtnefpmgaklegnaaDoorW.PrintLast

theorem NumberRing : armisticelaw01_NumberRing.Pure := by
  intro a b c wa wb wc
  have ha := isI64_of_wf wa
  have hb := isI64_of_wf wb
  have hs := sum_f a b ha hb
  unfold isI64 at ha hb
  refine ⟨12, ?_⟩
  unfold armisticelaw01_NumberRing.f
  rw [show armisticelaw01_NumberKnown.f 12 = some true by kernel_rfl, Option.bind_some, wrap_f, Option.bind_some, wrap_f, Option.bind_some, if_pos (by rw [Int.add_comm]), wrap_f, Option.bind_some, wrap_f, Option.bind_some, wrap_f, Option.bind_some,
    if_pos (show wrap64 (wrap64 (a + b) + c) = wrap64 (a + wrap64 (b + c)) by unfold wrap64; omega), wrap_f, Option.bind_some,
    show (wrap64 (a + 0) != a) = false from bne_eq_false_iff_eq.2 (by unfold wrap64; omega), armisticelaw01_NumberRing.j0, if_neg (by simp)]
  obtain ⟨s, hsd⟩ : ∃ s, s = wrap64 (a + b) := ⟨_, rfl⟩
  rw [← hsd]
  have hj : armisticelaw01_NumberRing.j1 11 a b true s false = some true := by
    rw [armisticelaw01_NumberRing.j1, if_neg (by simp), hs, Option.bind_some]
    by_cases c1 : isI64 (a + b)
    · rw [if_pos c1]
      have c1' := c1
      unfold isI64 at c1'
      have hs' : s = a + b := by rw [hsd]; unfold wrap64; omega
      subst hs'
      by_cases c2 : b ≥ 0
      · rw [if_pos c2, if_pos (by omega), if_neg (by simp), if_pos rfl, if_pos rfl]
        simp
      · rw [if_neg c2, if_pos (by omega), if_neg (by simp; omega), if_pos rfl, if_pos rfl]
        simp
    · rw [if_neg c1]
      have c1' := c1
      unfold isI64 at c1'
      by_cases c2 : b ≥ 0
      · have c3 : ¬ s ≥ a := by rw [hsd]; unfold wrap64; omega
        rw [if_pos c2, if_neg c3, if_neg (by omega), if_neg (by simp), if_pos rfl, if_neg (by simp), if_pos rfl, if_pos rfl]
      · have c3 : ¬ s < a := by rw [hsd]; unfold wrap64; omega
        rw [if_neg c2, if_pos (by omega), if_neg (by simp; omega), if_pos rfl, if_neg (by simp), if_pos rfl, if_pos rfl]
  by_cases c1 : b > -9223372036854775808
  · rw [if_pos c1, wrap_f, Option.bind_some, show (wrap64 (s + wrap64 (-b)) != a) = false from bne_eq_false_iff_eq.2 (by rw [hsd]; unfold wrap64; omega)]
    exact hj
  · rw [if_neg c1]
    exact hj

end Go.Proofs.YtnefpmgaklegnaaDoor.Pure
