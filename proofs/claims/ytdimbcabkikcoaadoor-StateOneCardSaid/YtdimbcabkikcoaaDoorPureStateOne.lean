/- StateOne, in plain Lean: two are the same just if their bytes are, and their texts. -/
import Derived.Test.YtdimbcabkikcoaaDoorM5Txt
import Derived.Test.YtdimbcabkikcoaaDoorPureStateKnown
import Derived.Test.YtdimbcabkikcoaaDoorPx9
namespace Go.Proofs.YtdimbcabkikcoaaDoor.Pure
open Go.RowKit Go.Proofs.YtdimbcabkikcoaaDoor.P Go.Proofs.YtdimbcabkikcoaaDoorW.PrintWords Go.Proofs.YtdimbcabkikcoaaDoorW.PrintLast
theorem strOf_data (l : List Int) (hl : ∀ x ∈ l, isByte x) (m : List Int) (hm : ∀ x ∈ m, isByte x) : (strOfNums l).toList = (strOfNums m).toList ↔ l = m := by
  constructor
  · intro h
    rw [ByteArray.toList_eq, ByteArray.toList_eq] at h
    unfold strOfNums at h
    have h' : l.map (fun x => UInt8.ofNat x.toNat) = m.map (fun x => UInt8.ofNat x.toNat) := by simpa using h
    have hinj : ∀ (a b : List Int), (∀ x ∈ a, isByte x) → (∀ x ∈ b, isByte x) → a.map (fun x => UInt8.ofNat x.toNat) = b.map (fun x => UInt8.ofNat x.toNat) → a = b := by
      intro a
      induction a with
      | nil => intro b _ _ h; cases b with | nil => rfl | cons _ _ => simp at h
      | cons x a ih =>
        intro b ha hb h
        cases b with
        | nil => simp at h
        | cons y b =>
          simp only [List.map_cons, List.cons.injEq] at h
          obtain ⟨h1, h2⟩ := h
          have hx := ha x List.mem_cons_self
          have hy := hb y List.mem_cons_self
          unfold isByte at hx hy
          have h3 := congrArg UInt8.toNat h1
          rw [UInt8.toNat_ofNat', UInt8.toNat_ofNat'] at h3
          rw [ih b (fun z hz => ha z (List.mem_cons_of_mem _ hz)) (fun z hz => hb z (List.mem_cons_of_mem _ hz)) h2, show x = y by omega]
    exact hinj l m hl hm h'
  · rintro rfl
    rfl
theorem StateOne (t n : Int) (l : List Int) (t' n' : Int) (l' : List Int) (hn : isI64 n) (hli : ∀ x ∈ l, isI64 x) (hn' : isI64 n') (hli' : ∀ x ∈ l', isI64 x) : armisticelaw05_StateOne.f (40 + 1000000) t n l t' n' l' = some true := by
  unfold armisticelaw05_StateOne.f
  rw [known_up, Option.bind_some]
  have hT : ∀ x, armisticelaw05_StateOne.j0 (40 + 1000000) true x t n l t' n' l' = (if x = true then some true else armisticelaw05_StateOne.j0 (40 + 1000000) true false t n l t' n' l') := by
    intro x
    cases x
    · rfl
    · rw [show 40 + 1000000 = 1000039 + 1 from rfl, armisticelaw05_StateOne.j0]
      rfl
  by_cases c : (l.length : Int) > 60
  · rw [if_pos c, hT, if_pos rfl]
  · rw [if_neg c, hT]
    by_cases c2 : (l'.length : Int) > 60
    · rw [decide_eq_true c2, if_pos rfl]
    · rw [decide_eq_false c2, if_neg (by decide), show 40 + 1000000 = 1000039 + 1 from rfl, armisticelaw05_StateOne.j0, if_neg (by decide)]
      obtain ⟨e, hc, _⟩ := check_total t n l (by omega)
      obtain ⟨e', hc', _⟩ := check_total t' n' l' (by omega)
      rw [encode_f t n l (by omega) e hc _ (by omega), Option.bind_some, encode_f t' n' l' (by omega) e' hc' _ (by omega), Option.bind_some, text_f t n l (by omega) hn hli e hc, Option.bind_some, text_f t' n' l' (by omega) hn' hli' e' hc', Option.bind_some,
        show 1000039 = 1000038 + 1 from rfl]
      by_cases he : e = 0
      · rw [if_pos he, armisticelaw05_StateOne.j1]
        by_cases he' : e' = 0
        · subst he he'
          rw [if_neg (by simp), same_f t n l t' n' l' (by omega) _ (by omega), Option.bind_some, if_pos rfl, if_pos rfl, if_pos rfl, sameState_f t n l t' n' l' (by omega) _ (by omega), Option.bind_some, if_pos (by simp)]
          simp only [if_true]
          have hb : armisticekit_SameBytes.f (encB t n l) (encB t' n' l') = some (decide (t = t' ∧ n = n' ∧ l = l')) := by
            unfold armisticekit_SameBytes.f
            refine congrArg some (Bool.eq_iff_iff.2 ?_)
            rw [beq_iff_eq, decide_eq_true_iff, strOf_data _ (enc_byte t n l) _ (enc_byte t' n' l')]
            constructor
            · intro h
              have h1 := dec_enc t n l (by omega) hn hli hc
              have h2 := dec_enc t' n' l' (by omega) hn' hli' hc'
              rw [h, h2] at h1
              simp only [Option.some.injEq, Prod.mk.injEq, and_true] at h1
              exact ⟨h1.1.symm, h1.2.1.symm, h1.2.2.symm⟩
            · rintro ⟨rfl, rfl, rfl⟩
              rfl
          rw [hb, Option.bind_some, if_pos (by simp)]
          refine congrArg some ?_
          rw [beq_iff_eq]
          refine Bool.eq_iff_iff.2 ?_
          rw [beq_iff_eq, decide_eq_true_iff]
          constructor
          · intro h
            have h0 : joinB (wordB t :: (numsOf t n l).map putStr) = joinB (wordB t' :: (numsOf t' n' l').map putStr) := by
              apply ba_ext
              rw [ByteArray.toList_eq, ByteArray.toList_eq] at h
              exact h
            have h1 := read_text t n l (by omega) hn hli hc
            have h2 := read_text t' n' l' (by omega) hn' hli' hc'
            rw [h0, h2] at h1
            simp only [Option.some.injEq, Prod.mk.injEq, and_true] at h1
            exact ⟨h1.1.symm, h1.2.1.symm, h1.2.2.symm⟩
          · rintro ⟨rfl, rfl, rfl⟩
            rfl
        · rw [if_pos (bne_iff_ne.2 he'), if_pos rfl, if_pos (by simp)]
          simp
      · rw [if_neg he, armisticelaw05_StateOne.j1, if_pos rfl, if_pos rfl, if_pos (by simp)]
        simp
end Go.Proofs.YtdimbcabkikcoaaDoor.Pure
