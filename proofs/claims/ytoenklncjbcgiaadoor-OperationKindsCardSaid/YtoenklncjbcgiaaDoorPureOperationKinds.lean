import Derived.Test.YtoenklncjbcgiaaDoorPx4
namespace Go.Proofs.YtoenklncjbcgiaaDoor.Pure
open Go.RowKit Go.Proofs.YtoenklncjbcgiaaDoor.P Go.Proofs.YtoenklncjbcgiaaDoorW.PrintWords Go.Proofs.YtoenklncjbcgiaaDoorW.PrintLast

theorem known30 : armisticelaw04_OperationKnown.f 30 = some true := by kernel_rfl
theorem kind1 : armisticelaw04_OperationKinds.f 30 (1 : Int) = some true := by kernel_rfl
theorem kind2 : armisticelaw04_OperationKinds.f 30 (2 : Int) = some true := by kernel_rfl
theorem kind3 : armisticelaw04_OperationKinds.f 30 (3 : Int) = some true := by kernel_rfl
theorem kind4 : armisticelaw04_OperationKinds.f 30 (4 : Int) = some true := by kernel_rfl
theorem kind5 : armisticelaw04_OperationKinds.f 30 (5 : Int) = some true := by kernel_rfl
theorem kind6 : armisticelaw04_OperationKinds.f 30 (6 : Int) = some true := by kernel_rfl
theorem kind7 : armisticelaw04_OperationKinds.f 30 (7 : Int) = some true := by kernel_rfl
theorem kind8 : armisticelaw04_OperationKinds.f 30 (8 : Int) = some true := by kernel_rfl
theorem kind9 : armisticelaw04_OperationKinds.f 30 (9 : Int) = some true := by kernel_rfl
theorem kind10 : armisticelaw04_OperationKinds.f 30 (10 : Int) = some true := by kernel_rfl
theorem kind11 : armisticelaw04_OperationKinds.f 30 (11 : Int) = some true := by kernel_rfl
theorem kind12 : armisticelaw04_OperationKinds.f 30 (12 : Int) = some true := by kernel_rfl
theorem kind13 : armisticelaw04_OperationKinds.f 30 (13 : Int) = some true := by kernel_rfl
theorem kind14 : armisticelaw04_OperationKinds.f 30 (14 : Int) = some true := by kernel_rfl
theorem kind15 : armisticelaw04_OperationKinds.f 30 (15 : Int) = some true := by kernel_rfl
theorem OperationKinds : armisticelaw04_OperationKinds.Pure := by
  intro a0 _
  refine ⟨30, ?_⟩
  by_cases h : 1 ≤ a0 ∧ a0 ≤ 15
  · obtain ⟨i, rfl⟩ : ∃ i : Nat, a0 = (i : Int) := ⟨a0.toNat, by omega⟩
    have : i = 1 ∨ i = 2 ∨ i = 3 ∨ i = 4 ∨ i = 5 ∨ i = 6 ∨ i = 7 ∨ i = 8 ∨ i = 9 ∨ i = 10 ∨ i = 11 ∨ i = 12 ∨ i = 13 ∨ i = 14 ∨ i = 15 := by omega
    rcases this with rfl | rfl | rfl | rfl | rfl | rfl | rfl | rfl | rfl | rfl | rfl | rfl | rfl | rfl | rfl
    · exact kind1
    · exact kind2
    · exact kind3
    · exact kind4
    · exact kind5
    · exact kind6
    · exact kind7
    · exact kind8
    · exact kind9
    · exact kind10
    · exact kind11
    · exact kind12
    · exact kind13
    · exact kind14
    · exact kind15
  · unfold armisticelaw04_OperationKinds.f
    rw [known30]
    unfold operation_Type.f operation_Word.f kdOf byE
    simp only [if_neg h, Option.bind_some]
    unfold armisticelaw04_OperationKinds.j0
    by_cases c : a0 < 1
    · rw [if_pos c]
      show some ((⟨#[]⟩ : ByteArray).toList == []) = some true
      rw [ByteArray.toList_eq]
      rfl
    · rw [if_neg c, show decide (a0 > 15) = true from decide_eq_true (by omega)]
      show some ((⟨#[]⟩ : ByteArray).toList == []) = some true
      rw [ByteArray.toList_eq]
      rfl

end Go.Proofs.YtoenklncjbcgiaaDoor.Pure
