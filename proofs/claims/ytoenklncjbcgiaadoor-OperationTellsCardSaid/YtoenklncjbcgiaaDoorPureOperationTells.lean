/- Whatever operation, kind and word: the law OperationTells tells true. -/
import Derived.Test.YtoenklncjbcgiaaDoorMText
import Derived.Test.YtoenklncjbcgiaaDoorPx7
namespace Go.Proofs.YtoenklncjbcgiaaDoor.Pure
open Go.RowKit Go.Proofs.YtoenklncjbcgiaaDoor.P Go.Proofs.YtoenklncjbcgiaaDoorW.PrintWords Go.Proofs.YtoenklncjbcgiaaDoorW.PrintLast

theorem awake_true : armisticelaw04_awake.f = some true := by kernel_rfl
theorem OperationTells (n a b rk rn kind : Int) (word : ByteArray) (ha : isI64 a) (hb : isI64 b) (hn : isI64 rn) : armisticelaw04_OperationTells.f 30 n a b rk rn kind word = some true := by
  unfold armisticelaw04_OperationTells.f
  rw [awake_true]
  by_cases c : (word.size : Int) > 40
  · rw [if_pos c]
    rfl
  · rw [if_neg c, type_eq, word_eq, kind_eq word, text_eq n a b rk rn ha hb hn, check_eq n a b rk rn 28]
    obtain ⟨t, ht⟩ : ∃ t, operation_Type.f kind = some t := by
      unfold operation_Type.f
      exact ⟨_, rfl⟩
    obtain ⟨u, hu⟩ : ∃ t, operation_Word.f kind = some t := by
      unfold operation_Word.f
      exact ⟨_, rfl⟩
    obtain ⟨v, hv⟩ : ∃ t, operation_Kind.f word = some t := by
      unfold operation_Kind.f
      exact ⟨_, rfl⟩
    obtain ⟨e, he⟩ : ∃ e, operation_Check.f n a b rk rn = some e := by
      unfold operation_Check.f
      exact ⟨_, rfl⟩
    obtain ⟨x, hx⟩ : ∃ x, operation_Text.f n a b rk rn = some x := by
      unfold operation_Text.f
      rw [if_pos ⟨ha, hb, hn⟩, he, Option.bind_some]
      split
      · exact ⟨_, rfl⟩
      · exact ⟨_, rfl⟩
    rw [ht, hu, hv, he, hx]
    simp only [Option.bind_some, if_true]

end Go.Proofs.YtoenklncjbcgiaaDoor.Pure
