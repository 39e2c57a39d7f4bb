/- Words for texts that are joined: a number's text, a row of texts of one's own. -/
import Derived.Test.YtdimbcabkikcoaaDoorKH
import Derived.Test.YtdimbcabkikcoaaDoorEPut
import Derived.Test.YtdimbcabkikcoaaDoorShelfP
import Derived.RangeFuncBox
import Derived.LoopN
namespace Go.Proofs.YtdimbcabkikcoaaDoor.P
open Go.RowKit Go.Proofs.YtdimbcabkikcoaaDoorW.PrintWords Go.Proofs.YtdimbcabkikcoaaDoorW.PrintLast Go.Proofs.YtdimbcabkikcoaaDoorW.PrintMore
set_option linter.unusedVariables false
set_option linter.unusedSimpArgs false
def putStr (a : Int) : ByteArray := strOfNums (putRev a).reverse
def joinB (xs : List ByteArray) : ByteArray := ⟨(Lib.join (xs.map (·.data.toList)) [32]).toArray⟩
theorem put_at (a : Int) (ha : isI64 a) (w : World) : Calls Tryd.prog 44 #[.int .i64 a] w fun e w' => e = .returned (.string (putStr a)) ∧ Below w.heap.size w w' := callsIn_wide.1 (put_in a ha w)
theorem toList_len' (s : ByteArray) : s.data.toList.length = s.size := rfl
theorem putStr_size (a : Int) : (putStr a).size ≤ 21 := by
  have h := digs_length 20 a.natAbs
  have : (putStr a).size = (putRev a).length := by
    rw [← toList_len', putStr, strOfNums]
    simp
  rw [this]
  unfold putRev
  split <;> simp <;> omega
theorem infoS : (Tryd.prog.info? 9).map (fun i => (i.zero, i.size, i.bytes)) = some (some (.string ⟨#[]⟩), 1, 16) := by kernel_rfl
theorem own_below_row {W w' : World} {base : Nat} {e : TypeId} {size n : Nat} {v : Value} {xs : List Value} (h : W.ownsRow base e size v n xs) (hb : Below W.heap.size W w') : w'.ownsRow base e size v n xs := by
  refine own_move h (fun k hk => ?_)
  obtain ⟨cells, hc⟩ := own_typed h k hk
  exact hb.block k (Array.getElem?_eq_some_iff.1 hc).1
theorem join_len (xs : List (List UInt8)) : (Lib.join xs [32]).length ≤ (xs.map (fun x => x.length + 1)).sum := by
  induction xs with
  | nil => simp [Lib.join]
  | cons x r ih =>
    cases r with
    | nil => simp [Lib.join, List.intercalate, List.intersperse]
    | cons y r =>
      have e : Lib.join (x :: y :: r) [32] = x ++ [32] ++ Lib.join (y :: r) [32] := by simp [Lib.join, List.intercalate, List.intersperse]
      rw [e, List.map_cons, List.sum_cons, List.length_append, List.length_append]
      simp only [List.length_cons, List.length_nil] at ih ⊢
      omega
theorem sum_le (l : List ByteArray) (m : Nat) (h : ∀ x ∈ l, x.size ≤ m) : ((l.map (·.data.toList)).map (fun x => x.length + 1)).sum ≤ l.length * (m + 1) := by
  induction l with
  | nil => simp
  | cons x r ih =>
    have h1 := ih (fun y hy => h y (List.mem_cons_of_mem _ hy))
    have h2 := h x List.mem_cons_self
    have h3 := toList_len' x
    simp only [List.map_cons, List.sum_cons, List.length_cons, Nat.add_mul, Nat.one_mul] at *
    omega
theorem join_own (base g c : Nat) (xs : List ByteArray) (W : World) (hown : W.ownsRow base 9 1 (.slice (some ⟨g, 0, none⟩) xs.length c) xs.length (xs.map Value.string)) (hN : xs.length ≤ 140737488355328) (hl : (Lib.join (xs.map (·.data.toList)) [32]).length ≤ 140737488355328) :
    Calls Tryd.prog 45 #[.slice (some ⟨g, 0, none⟩) xs.length c, .string ⟨#[32]⟩] W fun e w' => e = .returned (.string (joinB xs)) ∧ Below W.heap.size W w' := by
  rcases hown.2 with ⟨h, _⟩ | ⟨g', cap, cur, h, hb, hh, hn, hm, hs, ht⟩
  · cases h
  · simp only [Value.slice.injEq, Option.some.injEq, Addr.mk.injEq, and_true, true_and] at h
    obtain ⟨rfl, rfl⟩ := h
    refine Tryd.strings_Join g 0 c xs ⟨#[32]⟩ W ?_ (blk_lt hh) hN hn hl
    intro j x hx
    have hj : j < xs.length := (List.getElem?_eq_some_iff.1 hx).1
    have := hown.cellAt j (by omega)
    rw [Nat.zero_add, this, List.getElem?_map, hx]
    rfl
end Go.Proofs.YtdimbcabkikcoaaDoor.P
