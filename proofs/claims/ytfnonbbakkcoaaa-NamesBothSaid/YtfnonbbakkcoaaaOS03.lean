/- What the laws' parameters read as: texts. -/
import Derived.Test.YtfnonbbakkcoaaaWMore
import Derived.Test.YtfnonbbakkcoaaaProg
import Derived.ProofKit
import Derived.OpenShut
import Derived.SizedLaws
import Derived.SliceStrings
namespace Go.Proofs.Ytfnonbbakkcoaaa.P
open Go.ChangeShapes Go.WideShapes Go.ChangeAt Go.RowKit
set_option linter.unusedVariables false
theorem weights_strs {H : Type} : ∀ (ss : List ByteArray) (s : ByteArray), s ∈ ss → s.size ∈ DataW.weightsAll Try.prog 9 (strs (H := H) ss)
  | x :: ss, s, h => by
    show s.size ∈ (DataW.weights Try.prog 9 (.lit (.string x.data.toList) : DataW H)) ++ DataW.weightsAll Try.prog 9 (strs ss)
    rcases List.mem_cons.1 h with rfl | h
    · exact List.mem_append_left _ (List.mem_singleton.2 rfl)
    · exact List.mem_append_right _ (weights_strs ss s h)
set_option maxRecDepth 100000 in
/-- A list of texts among the arguments: its elements are read where it lies. -/
theorem open_texts {H : Type} {enc : TypeId × Value → H} {w : World} {v : Value} {d : DataW H} {p : List MemPlace} (hv : Value.okWide Try.prog w .any 0 22 v) (h : DataW.Trod enc Try.prog w 0 (fun _ => true) true 22 v d p) :
    ∃ (A : Option Addr) (c : Nat) (l : List ByteArray), v = .slice A l.length c ∧ l.length ≤ c ∧ Go.Proofs.YtfnonbbakkcoaaaW.PrintWords.Kd.C Go.Proofs.YtfnonbbakkcoaaaW.PrintWords.Kd.string w A l.length l ∧ ((∀ n ∈ d.weights Try.prog 22, n ≤ 140737488351232) → (∀ s ∈ l, s.size ≤ 140737488351232) ∧ l.length ≤ 140737488351232) := by
  obtain ⟨a, len, cap, rfl⟩ := okWide_slice Try.underlying22 hv
  obtain ⟨fuel, hf⟩ := h
  rcases open_strings Try.underlying22 Try.underlying9 (by kernel_rfl) hf with ⟨hcs, hx⟩ | ⟨x, n, c, ss, hcs, _, hl, hm, hlen, hx, hcell, _⟩
  · simp [Value.cells] at hcs
    obtain ⟨rfl, rfl, rfl⟩ := hcs
    exact ⟨none, 0, [], rfl, Nat.le_refl _, ⟨rfl, by simp, fun h => absurd h (by simp)⟩, fun _ => ⟨(fun s hs => by cases hs), Nat.zero_le _⟩⟩
  · simp [Value.cells] at hcs
    obtain ⟨rfl, rfl, rfl⟩ := hcs
    have hlen' : ss.length = cap := by simpa using hlen
    have ht : (ss.take len).length = len := by simp; omega
    refine ⟨some x, cap, ss.take len, by rw [ht], by omega, ?_, ?_⟩
    rotate_left 1
    · intro hw
      have hd : d = .slice (strs (ss.take len)) (strs (ss.drop len)) := (Prod.mk.inj hx).1
      rw [hd] at hw
      have hu := Try.underlying22
      have hb : Try.prog.bytesOf 9 = 16 := by kernel_rfl
      simp only [DataW.weights, hu] at hw
      constructor
      · intro s hs
        exact hw _ (List.mem_cons_of_mem _ (List.mem_append_left _ (weights_strs _ s hs)))
      · have := hw _ List.mem_cons_self
        rw [hb] at this
        simp only [strs, List.length_map] at this
        omega
    refine ⟨rfl, by rw [ht]; unfold maxLen at hm; omega, fun _ => ⟨x, rfl, fun j p hp => ⟨[.string p], rfl, rfl, fun i u hu => ?_⟩⟩⟩
    have hj : j < len := by
      have := (List.getElem?_eq_some_iff.1 hp).1
      omega
    cases i with
    | zero =>
      simp only [List.getElem?_cons_zero, Option.some.injEq] at hu
      subst hu
      have hc := hcell j (by omega)
      have hg : ss.getD j ByteArray.empty = p := by
        rw [List.getElem?_take, if_pos hj] at hp
        simp [List.getD, hp]
      rw [hg] at hc
      show w.cell? (x.add (j * 1 + 0)) = _
      rw [Nat.mul_one, Nat.add_zero]
      exact hc
    | succ i => simp at hu
end Go.Proofs.Ytfnonbbakkcoaaa.P
