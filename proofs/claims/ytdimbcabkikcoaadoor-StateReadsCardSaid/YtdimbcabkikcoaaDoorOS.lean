/- What the laws' parameters read as: a state. -/
import Derived.Test.YtdimbcabkikcoaaDoorEDig
import Derived.ProofKit
import Derived.OpenShut
import Derived.ChangeSlices
namespace Go.Proofs.YtdimbcabkikcoaaDoor.P
open Go.RowKit Go.Proofs.YtdimbcabkikcoaaDoorW.PrintWords Go.Proofs.YtdimbcabkikcoaaDoorW.PrintLast Go.Proofs.YtdimbcabkikcoaaDoorW.PrintMore
open Go.ChangeShapes Go.WideShapes Go.ChangeAt
set_option linter.unusedVariables false
theorem isI64_of_lit {x : Int} (h : (Lit.int .i64 x).wf = true) : isI64 x := by
  unfold isI64
  unfold Lit.wf at h
  simp only [Bool.and_eq_true, decide_eq_true_eq] at h
  have e1 : IntKind.i64.min = -9223372036854775808 := by decide +kernel
  have e2 : IntKind.i64.max = 9223372036854775807 := by decide +kernel
  rw [e1, e2] at h
  exact h
theorem C_of_open {k : IntKind} {W : World} {a : Addr} {len cap : Nat} {zs : List Int} (hl : len ≤ cap) (hm : cap ≤ maxLen) (hz : zs.length = cap) (hcell : ∀ i, i < zs.length → W.cell? (a.add i) = some (.int k (zs.getD i 0))) :
    (zs.take len).length = len ∧ Kd.C (Kd.int k) W (some a) (zs.take len).length (zs.take len) := by
  have h1 : (zs.take len).length = len := by rw [List.length_take]; omega
  refine ⟨h1, Kd.C_of_reads (enc := Value.int k) (d := (0 : Int)) (h1 := fun _ => rfl) ⟨rfl, by rw [h1]; unfold maxLen at hm; omega, fun _ => ⟨a, rfl, fun j hj => ?_⟩⟩⟩
  rw [h1] at hj
  rw [hcell j (by omega)]
  congr 2
  rw [List.getD_eq_getElem?_getD, List.getD_eq_getElem?_getD, List.getElem?_take, if_pos hj]
/-- A slice of numbers. -/
theorem open_rowI {H : Type} {enc : TypeId × Value → H} {k : IntKind} {t e : TypeId} {W : World} {fuel : Nat} {cs : List Value} {x : DataW H × List MemPlace} (ht : Tryd.prog.underlying t = some (.slice e)) (he : Tryd.prog.underlying e = some (.int k)) (hc : Tryd.prog.cellsOf e = 1)
    (h : DataW.trod enc Tryd.prog W 0 (fun _ => true) true fuel t cs = some x) :
    ∃ (A : Option Addr) (c : Nat) (l : List Int), cs = [.slice A l.length c] ∧ l.length ≤ c ∧ Kd.C (Kd.int k) W A l.length l ∧ ∀ y ∈ l, (Lit.int k y).wf = true := by
  rcases open_ints ht he hc h with ⟨hcs, _⟩ | ⟨a, len, cap, zs, hcs, _, hl, hm, hz, _, hcell, hw⟩
  · exact ⟨none, 0, [], hcs, Nat.le_refl _, Kd.C_nil _ _, by simp⟩
  · obtain ⟨h1, h2⟩ := C_of_open (k := k) hl hm (by simpa using hz) hcell
    exact ⟨some a, cap, zs.take len, by rw [h1]; exact hcs, by rw [h1]; exact hl, h2, fun y hy => hw y (List.mem_of_mem_take hy)⟩
set_option maxRecDepth 100000 in
/-- Bytes. -/
theorem open_bytes {H : Type} {enc : TypeId × Value → H} {w : World} {v : Value} {d : DataW H} {p : List MemPlace} (hv : Value.okWide Tryd.prog w .any 0 22 v) (h : DataW.Trod enc Tryd.prog w 0 (fun _ => true) true 22 v d p) :
    ∃ (A : Option Addr) (c : Nat) (l : List Int), v = .slice A l.length c ∧ l.length ≤ c ∧ Kd.C (Kd.int .u8) w A l.length l ∧ ∀ y ∈ l, (Lit.int .u8 y).wf = true := by
  obtain ⟨a, len, cap, rfl⟩ := okWide_slice Tryd.underlying22 hv
  obtain ⟨fuel, hf⟩ := h
  obtain ⟨A, c, l, e, h1, h2, h3⟩ := open_rowI (k := .u8) Tryd.underlying22 Tryd.underlying5 (by kernel_rfl) hf
  simp only [Value.cells, List.cons.injEq, and_true] at e
  exact ⟨A, c, l, by simpa using e, h1, h2, h3⟩
set_option maxRecDepth 100000 in
/-- A state: its type, a number, numbers. -/
theorem open_state {H : Type} {enc : TypeId × Value → H} {w : World} {v : Value} {d : DataW H} {p : List MemPlace} (hv : Value.okWide Tryd.prog w .any 0 27 v) (h : DataW.Trod enc Tryd.prog w 0 (fun _ => true) true 27 v d p) :
    ∃ (t n : Int) (A : Option Addr) (c : Nat) (l : List Int), v = .agg #[.int .i64 t, .int .i64 n, .slice A l.length c] ∧ isI64 n ∧ (∀ x ∈ l, isI64 x) ∧ l.length ≤ c ∧ Kd.C (Kd.int .i64) w A l.length l := by
  obtain ⟨cs, rfl, hc⟩ := okWide_struct Tryd.underlying27 hv
  obtain ⟨fuel, hf⟩ := h
  have c3 : Tryd.prog.cellsOf 27 = 3 := by kernel_rfl
  have c1 : Tryd.prog.cellsOf 3 = 1 := by kernel_rfl
  have c2 : Tryd.prog.cellsOf 25 = 1 := by kernel_rfl
  rw [c3] at hc
  obtain ⟨l⟩ := cs
  match l, hc with
  | [x0, x1, x2], _ =>
    obtain ⟨xs, m, _, _, _, hlen, hx⟩ := DataW.trod_struct Tryd.underlying27 hf
    match xs, hlen with
    | [y0, y1, y2], _ =>
      have h0 := hx 0 _ rfl
      have h1 := hx 1 _ rfl
      have h2 := hx 2 _ rfl
      simp only [List.getElem_toArray, List.getElem_cons_zero, List.getElem_cons_succ, Value.cells] at h0 h1 h2
      rw [c1] at h0 h1
      rw [c2] at h2
      obtain ⟨t, e0, _, w0⟩ := DataW.trod_int Tryd.underlying3 h0
      obtain ⟨n, e1, _, w1⟩ := DataW.trod_int Tryd.underlying3 h1
      obtain ⟨A, c, l, e2, hlc, hC, wl⟩ := open_rowI Tryd.underlying25 Tryd.underlying3 (by kernel_rfl) h2
      simp at e0 e1 e2
      subst e0 e1 e2
      exact ⟨t, n, A, c, l, rfl, isI64_of_lit w1, fun x hx => isI64_of_lit (wl x hx), hlc, hC⟩
end Go.Proofs.YtdimbcabkikcoaaDoor.P
