/- TokenJoins: which line words make, or why none: the program's answer is the document's, for every list of words. Conditions: those of the row (no text among the arguments is longer than the form's reach). -/
import Derived.Test.YthhdjbpmkfnhjaaDoorM02Join
import Derived.Test.YthhdjbpmkfnhjaaDoorPx7
namespace Go.Proofs.YthhdjbpmkfnhjaaDoor.Pure
open Go.RowKit Go.Proofs.YthhdjbpmkfnhjaaDoor.P Go.Proofs.YthhdjbpmkfnhjaaDoorW.PrintWords Go.Proofs.YthhdjbpmkfnhjaaDoorW.PrintLast

theorem j2_true (l : List ByteArray) (k : Nat) : armisticelaw02_TokenJoins.j2 (k + 1) l true = some true := by
  rw [armisticelaw02_TokenJoins.j2, if_pos rfl]
  rfl
theorem j2_false (l : List ByteArray) (hl : l.length ≤ 60) (hs : sumS l ≤ 70000) (k : Nat) (hk : 70200 < k) : armisticelaw02_TokenJoins.j2 (k + 1) l false = some true := by
  obtain ⟨R, hR⟩ : ∃ R, token_Join.f l = some R := by
    unfold token_Join.f
    have := joinB_size l.length l rfl
    rw [if_pos ⟨by omega, by omega⟩]
    exact ⟨_, rfl⟩
  rw [armisticelaw02_TokenJoins.j2, if_neg (by simp)]
  simp only [Option.bind_some, List.nil_append, List.length_nil, Nat.zero_add]
  rw [if_pos (by omega), ref_join l (by omega) k (by omega), hR]
  simp only [Option.bind_some, if_true]
  rw [sameTexts_refl l (by omega) k (by omega)]
  simp only [Option.bind_some, if_true]
  rfl
theorem sumS_take (l : List ByteArray) (i : Nat) (hi : i < l.length) : sumS (l.take (i + 1)) = sumS (l.take i) + l[i].size := by
  rw [List.take_succ_eq_append_getElem hi, sumS_app]
  simp [sumS]
theorem sumS_bound (l : List ByteArray) (h : ∀ s ∈ l, s.size ≤ 140737488351232) : sumS l ≤ 140737488351232 * l.length := by
  induction l with
  | nil => simp [sumS]
  | cons x l ih =>
    have h1 := ih (fun s hs => h s (List.mem_cons_of_mem _ hs))
    have h2 := h x List.mem_cons_self
    rw [sumS_cons, List.length_cons]
    omega
theorem loop (l : List ByteArray) (h : ∀ s ∈ l, s.size ≤ 140737488351232) (hl : l.length ≤ 140737488351232) : ∀ (d i k : Nat), i + d = min l.length 61 →
    armisticelaw02_TokenJoins.l0 (k + d + 1) l (sumS (l.take i) : Int) i = armisticelaw02_TokenJoins.j1 k l (sumS (l.take (min l.length 61)) : Int)
  | 0, i, k, hi => by
    obtain rfl : i = min l.length 61 := by omega
    rw [Nat.add_zero, armisticelaw02_TokenJoins.l0]
    by_cases c : l.length ≤ 61
    · rw [if_neg (by omega)]
    · rw [if_pos (by omega), if_neg (by omega)]
  | d + 1, i, k, hi => by
    have hil : i < l.length := by omega
    have hb := sumS_bound (l.take i) (fun s hs => h s (List.mem_of_mem_take hs))
    have hx := h l[i] (List.getElem_mem hil)
    have ht : (l.take i).length ≤ 61 := by
      rw [List.length_take]
      omega
    have hr : rdOf ByteArray.empty l (i : Int) = l[i] := by simp [rdOf, hil]
    have e1 : wrap64 ((sumS (l.take i) : Int) + (l[i].size : Int)) = (sumS (l.take (i + 1)) : Int) := by
      rw [sumS_take l i hil]
      unfold wrap64
      omega
    have e2 : wrap64 ((i : Int) + 1) = ((i + 1 : Nat) : Int) := by unfold wrap64; omega
    rw [show k + (d + 1) + 1 = (k + d + 1) + 1 by omega, armisticelaw02_TokenJoins.l0, if_pos (by omega), if_pos (by omega), if_pos (by omega), hr, e1, e2]
    exact loop l h hl d (i + 1) k (by omega)
theorem TokenJoins (l : List ByteArray) (h : ∀ s ∈ l, s.size ≤ 140737488351232) (hl : l.length ≤ 140737488351232) : ∃ k, armisticelaw02_TokenJoins.f k l = some true := by
  refine ⟨(70300 + 2) + min l.length 61 + 1, ?_⟩
  unfold armisticelaw02_TokenJoins.f
  have h1 := loop l h hl (min l.length 61) 0 (70300 + 2) (by omega)
  have e0 : ((sumS (l.take 0) : Nat) : Int) = 0 := by simp [sumS]
  rw [e0] at h1
  rw [show ((0 : Nat) : Int) = 0 from rfl] at h1
  rw [h1, armisticelaw02_TokenJoins.j1]
  by_cases c : 60 < l.length
  · rw [if_pos (by omega)]
    exact j2_true l 70300
  · rw [if_neg (by omega), show min l.length 61 = l.length by omega, List.take_length]
    by_cases c2 : 70000 < sumS l
    · rw [decide_eq_true (show (sumS l : Int) > 70000 by omega)]
      exact j2_true l 70300
    · rw [decide_eq_false (show ¬ (sumS l : Int) > 70000 by omega)]
      exact j2_false l (by omega) (by omega) 70300 (by omega)
end Go.Proofs.YthhdjbpmkfnhjaaDoor.Pure
