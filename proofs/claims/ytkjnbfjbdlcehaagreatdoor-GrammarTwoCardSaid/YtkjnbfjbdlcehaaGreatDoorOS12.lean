/- What the laws' parameters read as: a list of events; bytes. -/
import Derived.Test.YtkjnbfjbdlcehaaGreatDoorM12Ev
import Derived.ProofKit
import Derived.OpenShut
import Derived.ChangeSlices
import Derived.ChangeArms
import Derived.Deep.Slices
namespace Go.Proofs.YtkjnbfjbdlcehaaGreatDoor.P
open Go.RowKit Go.Proofs.YtkjnbfjbdlcehaaGreatDoorW.PrintWords Go.Proofs.YtkjnbfjbdlcehaaGreatDoorW.PrintLast Go.Proofs.YtkjnbfjbdlcehaaGreatDoorW.PrintMore
open Go.ChangeShapes Go.WideShapes Go.ChangeAt
set_option linter.unusedVariables false
theorem isI64_lit {x : Int} (h : (Lit.int .i64 x).wf = true) : isI64 x := by
  unfold isI64
  unfold Lit.wf at h
  simp only [Bool.and_eq_true, decide_eq_true_eq] at h
  have e1 : IntKind.i64.min = -9223372036854775808 := by decide +kernel
  have e2 : IntKind.i64.max = 9223372036854775807 := by decide +kernel
  rw [e1, e2] at h
  exact h
theorem C_of_open12 {k : IntKind} {W : World} {a : Addr} {len cap : Nat} {zs : List Int} (hl : len ≤ cap) (hm : cap ≤ maxLen) (hz : zs.length = cap) (hcell : ∀ i, i < zs.length → W.cell? (a.add i) = some (.int k (zs.getD i 0))) :
    (zs.take len).length = len ∧ Kd.C (Kd.int k) W (some a) (zs.take len).length (zs.take len) := by
  have h1 : (zs.take len).length = len := by rw [List.length_take]; omega
  refine ⟨h1, Kd.C_of_reads (enc := Value.int k) (d := (0 : Int)) (h1 := fun _ => rfl) ⟨rfl, by rw [h1]; unfold maxLen at hm; omega, fun _ => ⟨a, rfl, fun j hj => ?_⟩⟩⟩
  rw [h1] at hj
  rw [hcell j (by omega)]
  congr 2
  rw [List.getD_eq_getElem?_getD, List.getD_eq_getElem?_getD, List.getElem?_take, if_pos hj]
theorem open_row12 {H : Type} {enc : TypeId × Value → H} {k : IntKind} {t e : TypeId} {W : World} {fuel : Nat} {cs : List Value} {x : DataW H × List MemPlace} (ht : Tryz.prog.underlying t = some (.slice e)) (he : Tryz.prog.underlying e = some (.int k)) (hc : Tryz.prog.cellsOf e = 1)
    (h : DataW.trod enc Tryz.prog W 0 (fun _ => true) true fuel t cs = some x) :
    ∃ (A : Option Addr) (c : Nat) (l : List Int), cs = [.slice A l.length c] ∧ l.length ≤ c ∧ Kd.C (Kd.int k) W A l.length l ∧ ∀ y ∈ l, (Lit.int k y).wf = true := by
  rcases open_ints ht he hc h with ⟨hcs, _⟩ | ⟨a, len, cap, zs, hcs, _, hl, hm, hz, _, hcell, hw⟩
  · exact ⟨none, 0, [], hcs, Nat.le_refl _, Kd.C_nil _ _, by simp⟩
  · obtain ⟨h1, h2⟩ := C_of_open12 (k := k) hl hm (by simpa using hz) hcell
    exact ⟨some a, cap, zs.take len, by rw [h1]; exact hcs, by rw [h1]; exact hl, h2, fun y hy => hw y (List.mem_of_mem_take hy)⟩
set_option maxRecDepth 100000 in
/-- Bytes. -/
theorem open_bytes {H : Type} {enc : TypeId × Value → H} {w : World} {v : Value} {d : DataW H} {p : List MemPlace} (hv : Value.okWide Tryz.prog w .any 0 41 v) (h : DataW.Trod enc Tryz.prog w 0 (fun _ => true) true 41 v d p) :
    ∃ (A : Option Addr) (c : Nat) (l : List Int), v = .slice A l.length c ∧ l.length ≤ c ∧ Kd.C (Kd.int .u8) w A l.length l ∧ isU8 l = true := by
  obtain ⟨a, len, cap, rfl⟩ := okWide_slice Tryz.underlying41 hv
  obtain ⟨fuel, hf⟩ := h
  obtain ⟨A, c, l, e, h1, h2, h3⟩ := open_row12 (k := .u8) Tryz.underlying41 Tryz.underlying5 (by kernel_rfl) hf
  simp only [Value.cells, List.cons.injEq, and_true] at e
  refine ⟨A, c, l, by simpa using e, h1, h2, List.all_eq_true.2 fun x hx => ?_⟩
  have h1 : (decide (0 ≤ x) && decide (x ≤ 255)) = true := h3 x hx
  simp only [Bool.and_eq_true, decide_eq_true_eq] at h1 ⊢
  omega
theorem list_get3 {α : Type} {P : α → Prop} (l : List α) (n : Nat) (h : l.length = n) (i : Nat) (hi : i < n) : ∃ y, l[i]? = some y := ⟨l[i]'(by omega), List.getElem?_eq_getElem (by omega)⟩
set_option maxRecDepth 100000 in
set_option maxHeartbeats 1000000 in
/-- The cells of an event. -/
theorem open_ev {H : Type} {enc : TypeId × Value → H} {W : World} {fuel : Nat} {cs : List Value} {x : DataW H × List MemPlace} (h : DataW.trod enc Tryz.prog W 0 (fun _ => true) true fuel 38 cs = some x) :
    ∃ ev : S38, k38.K W ev cs ∧ Z12.NumE ev := by
  obtain ⟨xs, m, _, _, hc, hlen, hx⟩ := DataW.trod_struct Tryz.underlying38 h
  have c11 : Tryz.prog.cellsOf 38 = 11 := by kernel_rfl
  have c1 : Tryz.prog.cellsOf 3 = 1 := by kernel_rfl
  have cS : Tryz.prog.cellsOf 9 = 1 := by kernel_rfl
  have c5 : Tryz.prog.cellsOf 33 = 5 := by kernel_rfl
  have c2 : Tryz.prog.cellsOf 31 = 2 := by kernel_rfl
  have c3 : Tryz.prog.cellsOf 36 = 3 := by kernel_rfl
  have cL : Tryz.prog.cellsOf 34 = 1 := by kernel_rfl
  rw [c11] at hc
  match cs, hc with
  | [z0, z1, z2, z3, z4, z5, z6, z7, z8, z9, z10], _ =>
    match xs, hlen with
    | [y0, y1, y2, y3, y4], _ =>
      have h0 := hx 0 _ rfl
      have h1 := hx 1 _ rfl
      have h2 := hx 2 _ rfl
      have h3 := hx 3 _ rfl
      have h4 := hx 4 _ rfl
      simp only [List.getElem_toArray, List.getElem_cons_zero, List.getElem_cons_succ] at h0 h1 h2 h3 h4
      rw [c1] at h0
      rw [cS] at h1 h2
      rw [c5] at h3
      rw [c3] at h4
      obtain ⟨n0, e0, _, w0⟩ := DataW.trod_int Tryz.underlying3 h0
      obtain ⟨s1, e1, _, w1⟩ := DataW.trod_string Tryz.underlying9 h1
      obtain ⟨s2, e2, _, w2⟩ := DataW.trod_string Tryz.underlying9 h2
      obtain ⟨us, m', _, _, _, hlen', hx'⟩ := DataW.trod_struct Tryz.underlying33 h3
      match us, hlen' with
      | [u0, u1, u2, u3], _ =>
        have g0 := hx' 0 _ rfl
        have g1 := hx' 1 _ rfl
        have g2 := hx' 2 _ rfl
        have g3 := hx' 3 _ rfl
        simp only [List.getElem_toArray, List.getElem_cons_zero, List.getElem_cons_succ] at g0 g1 g2 g3
        rw [c1] at g0 g1 g2
        rw [c2] at g3
        obtain ⟨o0, f0, _, v0⟩ := DataW.trod_int Tryz.underlying3 g0
        obtain ⟨o1, f1, _, v1⟩ := DataW.trod_int Tryz.underlying3 g1
        obtain ⟨o2, f2, _, v2⟩ := DataW.trod_int Tryz.underlying3 g2
        obtain ⟨rs, m2, _, _, _, hlen2, hx2⟩ := DataW.trod_struct Tryz.underlying31 g3
        match rs, hlen2 with
        | [r0, r1], _ =>
          have k0 := hx2 0 _ rfl
          have k1 := hx2 1 _ rfl
          simp only [List.getElem_toArray, List.getElem_cons_zero, List.getElem_cons_succ] at k0 k1
          rw [c1] at k0 k1
          obtain ⟨o3, f3, _, v3⟩ := DataW.trod_int Tryz.underlying3 k0
          obtain ⟨o4, f4, _, v4⟩ := DataW.trod_int Tryz.underlying3 k1
          obtain ⟨ss, m3, _, _, _, hlen3, hx3⟩ := DataW.trod_struct Tryz.underlying36 h4
          match ss, hlen3 with
          | [q0, q1, q2], _ =>
            have j0 := hx3 0 _ rfl
            have j1 := hx3 1 _ rfl
            have j2 := hx3 2 _ rfl
            simp only [List.getElem_toArray, List.getElem_cons_zero, List.getElem_cons_succ] at j0 j1 j2
            rw [c1] at j0 j1
            rw [cL] at j2
            obtain ⟨t0, d0, _, a0⟩ := DataW.trod_int Tryz.underlying3 j0
            obtain ⟨t1, d1, _, a1⟩ := DataW.trod_int Tryz.underlying3 j1
            obtain ⟨A, c, l, d2, hlc, hC, wl⟩ := open_row12 Tryz.underlying34 Tryz.underlying3 (by kernel_rfl) j2
            simp at e0 e1 e2 f0 f1 f2 f3 f4 d0 d1 d2
            subst e0 e1 e2 f0 f1 f2 f3 f4 d0 d1 d2
            exact ⟨⟨n0, s1, s2, ⟨o0, o1, o2, ⟨o3, o4⟩⟩, ⟨t0, t1, l⟩⟩, k38_mk W ⟨n0, s1, s2, ⟨o0, o1, o2, ⟨o3, o4⟩⟩, ⟨t0, t1, l⟩⟩ hlc hC, ⟨isI64_lit v1, isI64_lit v2, isI64_lit v4, isI64_lit a1, fun y hy => isI64_lit (wl y hy)⟩⟩
theorem cells_at {w : World} {a : Addr} {n : Nat} {cs : List Value} (h : w.cells? 0 a n = some cs) (j : Nat) (u : Value) (hj : cs[j]? = some u) : w.cell? (a.add j) = some u := by
  unfold World.cells? at h
  rw [if_pos (Nat.zero_le _)] at h
  have hl := mapM_some_length h
  rw [List.length_range] at hl
  have hjl : j < n := by
    have := (List.getElem?_eq_some_iff.1 hj).1
    omega
  rw [← hj]
  exact mapM_some_get h j j (by simp [hjl])
set_option maxRecDepth 100000 in
/-- A list of events. -/
theorem open_events {H : Type} {enc : TypeId × Value → H} {w : World} {v : Value} {d : DataW H} {p : List MemPlace} (hv : Value.okWide Tryz.prog w .any 0 22 v) (h : DataW.Trod enc Tryz.prog w 0 (fun _ => true) true 22 v d p) :
    ∃ (A : Option Addr) (c : Nat) (l : List S38), v = .slice A l.length c ∧ l.length ≤ c ∧ Kd.C k38 w A l.length l ∧ ∀ x ∈ l, Z12.NumE x := by
  obtain ⟨a0, len0, cap0, rfl⟩ := okWide_slice Tryz.underlying22 hv
  obtain ⟨fuel, hf⟩ := h
  have c11 : Tryz.prog.cellsOf 38 = 11 := by kernel_rfl
  rcases DataW.trod_slice Tryz.underlying22 hf with ⟨hcs, _⟩ | ⟨a, len, cap, elems, rest, n, _, hcs, _, _, hl, hm, hel, he, _, _⟩
  · simp only [Value.cells, List.cons.injEq, and_true] at hcs
    exact ⟨none, 0, [], by simpa using hcs, Nat.le_refl _, Kd.C_nil _ _, by simp⟩
  · simp only [Value.cells, List.cons.injEq, and_true] at hcs
    rw [c11] at he
    have each : ∀ i, i < len → ∃ ev : S38, (∃ cs, w.cells? 0 (a.add (i * 11)) 11 = some cs ∧ k38.K w ev cs) ∧ Z12.NumE ev := by
      intro i hi
      obtain ⟨y, hy⟩ := list_get3 (P := fun _ => True) elems len hel i hi
      have h1 := he i hi
      rw [hy] at h1
      obtain ⟨cs, hc, ht⟩ := Option.bind_eq_some_iff.1 h1
      obtain ⟨ev, hk, hn⟩ := open_ev ht
      exact ⟨ev, ⟨cs, hc, hk⟩, hn⟩
    haveI : Inhabited S38 := ⟨z38⟩
    obtain ⟨f, hf⟩ := Deep.choose_lt each
    have hlen : ((List.range len).map f).length = len := by simp
    refine ⟨some a, cap, (List.range len).map f, by rw [hlen]; simpa using hcs, by rw [hlen]; exact hl, ⟨rfl, by rw [hlen]; unfold maxLen at hm; omega, fun _ => ⟨a, rfl, fun j x hj => ?_⟩⟩, fun x hx => ?_⟩
    · have hjl : j < len := by
        have := (List.getElem?_eq_some_iff.1 hj).1
        omega
      obtain ⟨⟨cs, h1, h2⟩, _⟩ := hf j hjl
      have hx : x = f j := by
        rw [List.getElem?_map, List.getElem?_range hjl] at hj
        simpa using hj.symm
      subst hx
      exact ⟨cs, k38.K_len h2, h2, fun i u hu => by
        have := cells_at h1 i u hu
        rw [Addr.add_add] at this
        exact this⟩
    · obtain ⟨r, hr, rfl⟩ := List.mem_map.1 hx
      exact (hf r (List.mem_range.1 hr)).2
end Go.Proofs.YtkjnbfjbdlcehaaGreatDoor.P
