import Derived.Test.YtnefpmgaklegnaaDoorMBack
import Derived.Test.YtnefpmgaklegnaaDoorPureNumberKnown
namespace Go.Proofs.YtnefpmgaklegnaaDoor.Pure
open Go.RowKit Go.Proofs.YtnefpmgaklegnaaDoor.P Go.Proofs.YtnefpmgaklegnaaDoorW.PrintWords Go.Proofs.YtnefpmgaklegnaaDoorW.PrintLast

theorem gets_put (a : Int) (ha : isI64 a) : armisticelaw01_gets.f (strOfNums (putRev a).reverse) a = some true := by
  unfold armisticelaw01_gets.f
  rw [get_put a ha]
  simp
theorem put_some (a : Int) (ha : isI64 a) : number_Put.f a = some (strOfNums (putRev a).reverse) := by
  unfold number_Put.f
  rw [if_pos ha]
theorem told_err (b : Bool) (v : Nat) : (told b v).2.1 ≠ 0 → (told b v).1 = 0 ∧ (told b v).2.2 = 0 := by
  unfold told
  cases b <;> simp only [Bool.false_eq_true, if_true, if_false] <;> split <;> simp

theorem NumberBack : armisticelaw01_NumberBack.Pure := by
  intro a0 a1 w0 _
  have ha := isI64_of_wf w0
  refine ⟨11, ?_⟩
  unfold armisticelaw01_NumberBack.f
  rw [show armisticelaw01_NumberKnown.f 11 = some true by kernel_rfl, Option.bind_some]
  have hj : armisticelaw01_NumberBack.j0 11 a0 true false = some true := by
    rw [armisticelaw01_NumberBack.j0, if_neg (by simp), if_pos rfl, put_some a0 ha, Option.bind_some, gets_put a0 ha]
    rfl
  by_cases c : (a1.size : Int) > 40
  · rw [if_pos c]
  · rw [if_neg c]
    rcases get_cases a1 with ⟨h20, hg⟩ | ⟨h20, i, hi, his, hg⟩ | ⟨h20, hne, hgood, hg⟩
    · rw [hg, Option.bind_some, if_neg (by simp), if_pos rfl, if_neg (by simp), decide_eq_false (show ¬ (20 : Int) > (a1.size : Int) by omega)]
      exact hj
    · rw [hg, Option.bind_some, if_neg (by simp), if_pos rfl, if_neg (show ¬ (i : Int) < 0 by omega), decide_eq_false (show ¬ (i : Int) > (a1.size : Int) by omega)]
      exact hj
    · rw [hg, Option.bind_some]
      rcases ht : told (isNeg a1) (val (a1.data.toList.drop (firstOf a1)) 0) with ⟨x, e, i⟩
      by_cases ce : e = 0
      · rw [if_pos ce]
        obtain ⟨h1, h2⟩ := put_get a1 h20 hne hgood _ _ _ ht ce
        rw [put_some _ h1, Option.bind_some, h2, if_pos rfl]
        exact hj
      · have h3 := told_err (isNeg a1) (val (a1.data.toList.drop (firstOf a1)) 0)
        rw [ht] at h3
        obtain ⟨h1, h2⟩ := h3 ce
        have h1' : x = 0 := h1
        have h2' : i = 0 := h2
        subst h1' h2'
        rw [if_neg ce, if_pos rfl, if_neg (by simp), decide_eq_false (show ¬ (0 : Int) > (a1.size : Int) by omega)]
        exact hj

end Go.Proofs.YtnefpmgaklegnaaDoor.Pure
