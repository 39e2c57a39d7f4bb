/- StateTells, in plain Lean: what is told of a state is what the document tells. -/
import Derived.Test.YtdimbcabkikcoaaGreatDoorM5Z
import Derived.Test.YtdimbcabkikcoaaGreatDoorPx9
namespace Go.Proofs.YtdimbcabkikcoaaGreatDoor.Pure
open Go.RowKit Go.Proofs.YtdimbcabkikcoaaGreatDoor.P Go.Proofs.YtdimbcabkikcoaaGreatDoorW.PrintWords Go.Proofs.YtdimbcabkikcoaaGreatDoorW.PrintLast
theorem awake_at : armisticelaw05_awake.f 40 = some true := by kernel_rfl
theorem awake_up (k : Nat) (hk : 40 ≤ k) : armisticelaw05_awake.f k = some true := upk armisticelaw05_awake.mono awake_at k hk
theorem StateTells (t n : Int) (l : List Int) (t' n' : Int) (l' : List Int) (c : Int) (hn : isI64 n) (hli : ∀ x ∈ l, isI64 x) : armisticelaw05_StateTells.f (40 + 2000000) t n l t' n' l' c = some true := by
  unfold armisticelaw05_StateTells.f
  have hT : ∀ x, armisticelaw05_StateTells.j0 (40 + 2000000) c x t n l t' n' l' = (if x = true then some true else armisticelaw05_StateTells.j0 (40 + 2000000) c false t n l t' n' l') := by
    intro x
    cases x
    · rfl
    · rw [show 40 + 2000000 = 2000039 + 1 from rfl, armisticelaw05_StateTells.j0, if_pos rfl, awake_up _ (by omega)]
      rfl
  by_cases h1 : (l.length : Int) > 60
  · rw [if_pos h1, hT, if_pos rfl]
  · rw [if_neg h1, hT]
    by_cases h2 : (l'.length : Int) > 60
    · rw [decide_eq_true h2, if_pos rfl]
    · obtain ⟨e, hc, _⟩ := check_total t n l (by omega)
      obtain ⟨e2, h3, hrc⟩ := ref_check t n l (by omega)
      obtain rfl : e2 = e := by rw [hc] at h3; exact (Option.some.inj h3).symm
      obtain ⟨x, hx⟩ : ∃ x, x = (if e2 = 0 then encB t n l else []) := ⟨_, rfl⟩
      have hxl : x.length ≤ 1000000 := by
        rw [hx]
        split
        · rw [enc_length]
          omega
        · simp
      obtain ⟨r, hr⟩ := over_bytes x hxl 2000038 (by omega)
      have hE : ∃ p q u v, state_Empty.f c = some (p, q, u, v) ∧ u.length ≤ 0 := by
        unfold state_Empty.f state_typed.f
        rw [Option.bind_some]
        split
        · exact ⟨_, _, _, _, rfl, by simp⟩
        · exact ⟨_, _, _, _, rfl, by simp⟩
      have hW : ∃ u v, state_Word.f c = some (u, v) := by
        unfold state_Word.f
        split
        · exact ⟨_, _, rfl⟩
        · exact ⟨_, _, rfl⟩
      obtain ⟨p, q, u, v, hE, hu⟩ := hE
      obtain ⟨u2, v2, hW⟩ := hW
      have hsb : armisticekit_SameBytes.f x x = some true := by
        unfold armisticekit_SameBytes.f
        rw [beq_self_eq_true]
      rw [decide_eq_false h2, if_neg (by decide), show 40 + 2000000 = 2000039 + 1 from rfl, armisticelaw05_StateTells.j0, if_neg (by decide), copy_f t n l (by omega), Option.bind_some, encode_f t n l (by omega) e2 hc _ (by omega), Option.bind_some,
        refenc_f t n l (by omega) e2 hc _ (by omega), Option.bind_some, text_f t n l (by omega) hn hli e2 hc, Option.bind_some, reftext_f t n l (by omega) hn hli e2 hc _ (by omega), Option.bind_some, refempty_f, hE, Option.bind_some, Option.bind_some, refword_f, hW,
        Option.bind_some, Option.bind_some, ← hx]
      dsimp only
      rw [hsb, Option.bind_some, if_pos rfl, if_pos rfl, if_pos rfl, if_pos rfl, sameState_f p q u p q u (by omega) _ (by omega), Option.bind_some, if_pos (by simp), if_pos rfl, if_pos rfl, beq_self_eq_true,
        show 2000039 = 2000038 + 1 from rfl, armisticelaw05_StateTells.j1, hr, Option.bind_some, if_pos rfl, hc, Option.bind_some, hrc _ (by omega), Option.bind_some, if_pos rfl,
        same_f t n l t' n' l' (by omega) _ (by omega), Option.bind_some, refsame_f t n l t' n' l' (by omega) _ (by omega), Option.bind_some, if_pos (by simp), sameState_f t n l t n l (by omega) _ (by omega), Option.bind_some, if_pos (by simp), awake_up _ (by omega)]
      rfl
end Go.Proofs.YtdimbcabkikcoaaGreatDoor.Pure
