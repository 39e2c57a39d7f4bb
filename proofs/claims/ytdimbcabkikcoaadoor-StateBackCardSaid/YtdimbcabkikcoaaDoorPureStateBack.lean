/- StateBack, in plain Lean: what is told is read as it was. -/
import Derived.Test.YtdimbcabkikcoaaDoorM5Txt
import Derived.Test.YtdimbcabkikcoaaDoorPureStateKnown
import Derived.Test.YtdimbcabkikcoaaDoorPx10
namespace Go.Proofs.YtdimbcabkikcoaaDoor.Pure
open Go.RowKit Go.Proofs.YtdimbcabkikcoaaDoor.P Go.Proofs.YtdimbcabkikcoaaDoorW.PrintWords Go.Proofs.YtdimbcabkikcoaaDoorW.PrintLast
theorem reads_self (k : Nat) (t n : Int) (l : List Int) (hk : l.length + 1 ≤ k) (hl : l.length ≤ 1000) (hn : isI64 n) (hli : ∀ x ∈ l, isI64 x) (hc : state_Check.f t n l = some 0) :
    armisticelaw05_reads.f k (joinB (wordB t :: (numsOf t n l).map putStr)) t n l = some true := by
  unfold armisticelaw05_reads.f
  rw [read_text t n l hl hn hli hc, Option.bind_some, if_pos (by rfl), sameState_f t n l t n l (by omega) k hk, Option.bind_some]
  simp
theorem StateBack (t n : Int) (l : List Int) (hn : isI64 n) (hli : ∀ x ∈ l, isI64 x) : armisticelaw05_StateBack.f (40 + 1000000) t n l = some true := by
  unfold armisticelaw05_StateBack.f
  rw [known_up, Option.bind_some]
  by_cases c : (l.length : Int) > 60
  · rw [if_pos c]
  · obtain ⟨e, hc, _⟩ := check_total t n l (by omega)
    rw [if_neg c, encode_f t n l (by omega) e hc _ (by omega), Option.bind_some, text_f t n l (by omega) hn hli e hc, Option.bind_some, if_pos rfl, hc, Option.bind_some, show 40 + 1000000 = 1000039 + 1 from rfl, armisticelaw05_StateBack.j0,
      if_neg (by simp)]
    by_cases he : e = 0
    · subst he
      rw [if_pos rfl, if_pos rfl, decode_f _ (enc_byte t n l) (by rw [enc_length]; omega) _ (by omega), dec_enc t n l (by omega) hn hli hc, Option.bind_some, if_pos rfl, if_pos rfl, sameState_f t n l t n l (by omega) _ (by omega), Option.bind_some,
        if_pos (by simp), if_pos rfl, reads_self _ t n l (by omega) (by omega) hn hli hc]
      rfl
    · rw [if_neg he, if_pos rfl, if_pos (by rw [if_neg he]; rfl), if_neg he]
      show some ((⟨#[]⟩ : ByteArray).toList == []) = some true
      rw [ByteArray.toList_eq]
      rfl
end Go.Proofs.YtdimbcabkikcoaaDoor.Pure
