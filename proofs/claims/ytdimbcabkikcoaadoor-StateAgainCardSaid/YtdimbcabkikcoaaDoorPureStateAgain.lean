/- StateAgain, in plain Lean: what is decoded is encoded as it was; what is read is told as it was. -/
import Derived.Test.YtdimbcabkikcoaaDoorM5Txt
import Derived.Test.YtdimbcabkikcoaaDoorPureStateKnown
import Derived.Test.YtdimbcabkikcoaaDoorPx8
namespace Go.Proofs.YtdimbcabkikcoaaDoor.Pure
open Go.RowKit Go.Proofs.YtdimbcabkikcoaaDoor.P Go.Proofs.YtdimbcabkikcoaaDoorW.PrintWords Go.Proofs.YtdimbcabkikcoaaDoorW.PrintLast
theorem tells_self (t n : Int) (l : List Int) (s : ByteArray) (hl : l.length ≤ 1000000000) (hn : isI64 n) (hli : ∀ x ∈ l, isI64 x) (hc : state_Check.f t n l = some 0) (hs : joinB (wordB t :: (numsOf t n l).map putStr) = s) : armisticelaw05_tells.f t n l s 0 = some true := by
  unfold armisticelaw05_tells.f state_Text.f
  have hok : okText n l = true := by
    unfold okText
    simp only [Bool.and_eq_true, decide_eq_true_eq, List.all_eq_true]
    exact ⟨⟨hn, hli⟩, hl⟩
  rw [if_pos hok, hc, Option.bind_some, if_pos rfl, Option.bind_some, hs, if_pos rfl]
  rfl
theorem again_j1 (g : Nat) (s : ByteArray) (hs : s.size ≤ 300) : armisticelaw05_StateAgain.j1 (g + 1) s true = some true := by
  obtain ⟨t, n, l, e, a, hr, ha0, ha, h⟩ := read_all s (by omega)
  rw [armisticelaw05_StateAgain.j1, hr, Option.bind_some]
  rcases h with ⟨rfl, rfl, hc, hn, hli, hlen, hj⟩ | ⟨he, rfl, rfl, rfl⟩
  · rw [if_pos rfl, if_pos rfl, tells_self t n l s (by omega) hn hli hc hj, Option.bind_some, if_pos rfl, hc]
    rfl
  · rw [if_neg he, if_pos rfl, if_pos ha0, decide_eq_true ha]
theorem again_j0 (g : Nat) (hg : 1000020 ≤ g) (b : List Int) (hb : ∀ x ∈ b, isByte x) (hl : b.length ≤ 300) (s : ByteArray) (hs : s.size ≤ 300) : armisticelaw05_StateAgain.j0 (g + 1) b s true false = some true := by
  obtain ⟨g', rfl⟩ : ∃ g', g = g' + 1 := ⟨g - 1, by omega⟩
  rw [armisticelaw05_StateAgain.j0, if_neg (by decide), decode_f b hb (by omega) _ hg]
  obtain ⟨t, n, l, e, hd, he, _, _⟩ := dec_total b (by omega)
  rw [hd, Option.bind_some]
  rcases he with rfl | rfl
  · obtain ⟨hc, henc, hll⟩ := enc_dec b hb (by omega) t n l hd
    rw [if_pos rfl, encode_f t n l hll 0 hc _ (by omega), Option.bind_some, if_pos rfl, if_pos rfl, henc]
    have hsame : armisticekit_SameBytes.f b b = some true := by unfold armisticekit_SameBytes.f; simp
    rw [hsame, Option.bind_some, if_pos rfl, hc, Option.bind_some, if_pos rfl]
    exact again_j1 g' s hs
  · rw [if_neg (by show ¬ (5 : Int) = 0; decide)]
    exact again_j1 g' s hs
theorem byte_of_wf {x : Int} (h : (Lit.int .u8 x).wf = true) : isByte x := by
  unfold isByte
  unfold Lit.wf at h
  simp only [Bool.and_eq_true, decide_eq_true_eq] at h
  have e1 : IntKind.u8.min = 0 := by decide +kernel
  have e2 : IntKind.u8.max = 255 := by decide +kernel
  rw [e1, e2] at h
  omega
theorem StateAgain : armisticelaw05_StateAgain.Pure := by
  intro l0 a1 _ _ hw _
  refine ⟨40 + 1000000, ?_⟩
  unfold armisticelaw05_StateAgain.f
  rw [known_up, Option.bind_some]
  have hT : ∀ x, armisticelaw05_StateAgain.j0 (40 + 1000000) l0 a1 true x = (if x = true then some true else armisticelaw05_StateAgain.j0 (40 + 1000000) l0 a1 true false) := by
    intro x
    cases x
    · rfl
    · rw [show 40 + 1000000 = 1000039 + 1 from rfl, armisticelaw05_StateAgain.j0]
      rfl
  by_cases c : (l0.length : Int) > 300
  · rw [if_pos c, hT, if_pos rfl]
  · rw [if_neg c, hT]
    by_cases c2 : (a1.size : Int) > 300
    · rw [decide_eq_true c2, if_pos rfl]
    · rw [decide_eq_false c2, if_neg (by decide)]
      exact again_j0 1000039 (by omega) l0 (fun x hx => byte_of_wf (hw x hx)) (by omega) a1 (by omega)
end Go.Proofs.YtdimbcabkikcoaaDoor.Pure
