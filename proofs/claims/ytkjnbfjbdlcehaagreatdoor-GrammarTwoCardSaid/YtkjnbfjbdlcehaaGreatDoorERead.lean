/- operation.Read: the operation that words are. -/
import Derived.Test.YtkjnbfjbdlcehaaGreatDoorERead0
import Derived.Test.YtkjnbfjbdlcehaaGreatDoorERead1
import Derived.Test.YtkjnbfjbdlcehaaGreatDoorERead2
namespace Go.Proofs.YtkjnbfjbdlcehaaGreatDoor.P
open Go.RowKit Go.Proofs.YtkjnbfjbdlcehaaGreatDoorW.PrintWords Go.Proofs.YtkjnbfjbdlcehaaGreatDoorW.PrintLast Go.Proofs.YtkjnbfjbdlcehaaGreatDoorW.PrintMore
set_option linter.unusedVariables false
set_option linter.unusedSimpArgs false

theorem kinds_args2 : ∀ x ∈ kinds15, x.args = 0 ∨ x.args = 1 ∨ x.args = 2 := by decide
set_option maxHeartbeats 2000000 in
set_option maxRecDepth 100000 in
theorem read_nil (A : Option Addr) (c : Nat) (w : World) :
    Calls Tryz.prog 123 #[.slice A 0 c] w fun e w' => e = .returned (.tuple #[.agg #[.int .i64 0, .int .i64 0, .int .i64 0, .int .i64 0, .int .i64 0], .int .i64 0, .int .i64 5]) ∧ Below w.heap.size w w' := by
  go_enter Tryz.func123, Tryz.ntmps123
  go_wp2_with fail
  go_step3
  go_wp2
  try rw [Exit.noGoto_ret]
  refine bodyPost_ret (results_ctt rfl _ _ w.heap.size 33 (opCells 0 0 0 0 0) (0, 0) _ rfl (blk_new w _) Tryz.underlying33 rfl (by kernel_rfl)) rfl ?_
  exact ⟨rfl, (Below.refl _ w).alloc (Nat.le_refl _) _⟩
set_option maxHeartbeats 2000000 in
set_option maxRecDepth 100000 in
theorem read_bad (s : ByteArray) (e0 : Int) (he : e0 ≠ 0) (ad : Addr) (c : Nat) (l : List ByteArray) (hl : 0 < l.length) (w : World) (had : ad.block < w.heap.size) (hcw : w.cell? ad = some (.string s))
    (hkind : ∀ W, Calls Tryz.prog 149 #[.string s] W fun e w' => (∃ k, e = .returned (.tuple #[.int .i64 k, .int .i64 e0])) ∧ Below W.heap.size W w') :
    Calls Tryz.prog 123 #[.slice (some ad) l.length c] w fun e w' => e = .returned (.tuple #[.agg #[.int .i64 0, .int .i64 0, .int .i64 0, .int .i64 0, .int .i64 0], .int .i64 0, .int .i64 e0]) ∧ Below w.heap.size w w' := by
  have HK := Aside0.mk hkind
  clear hkind
  have p1 : ((l.length : Int) == 0) = false := beq_eq_false_iff_ne.2 (by omega)
  have p2 : (0 : Int) < (l.length : Int) := by omega
  have p3 := eq_true p2
  have h1 : (e0 != 0) = true := bne_iff_ne.2 he
  have h2 : (e0 == 0) = false := beq_eq_false_iff_ne.2 he
  clear he
  go_enter Tryz.func123, Tryz.ntmps123
  go_wp2_with fail
  go_step3
  go_wp2_with fail
  refine (HK.out _).mono ?_
  rintro e w2 ⟨⟨k, rfl⟩, hb2⟩
  have hz : w2.heap[w.heap.size]? = some (.cells (opCells 0 0 0 0 0) 33) := blk_below (blk_new w _) hb2
  have HZ := Aside0.mk hz
  have HB := Aside0.mk (((Below.refl _ w).alloc (Nat.le_refl _) _).trans (hb2.mono (by simp)))
  clear hb2 hz
  have c0' := (blk_cell HZ.out 0).trans rfl
  have c1' := (blk_cell HZ.out 1).trans rfl
  have c2' := (blk_cell HZ.out 2).trans rfl
  have c3' := (blk_cell HZ.out 3).trans rfl
  have c4' := (blk_cell HZ.out 4).trans rfl
  have f0' := blk_frozen HZ.out 0
  have f1' := blk_frozen HZ.out 1
  have f2' := blk_frozen HZ.out 2
  have f3' := blk_frozen HZ.out 3
  have f4' := blk_frozen HZ.out 4
  have s1 := blk_lt HZ.out
  go_wp2
  try rw [Exit.noGoto_ret]
  refine bodyPost_ret (results_ctt rfl _ _ w.heap.size 33 (opCells 0 0 0 0 0) (0, 0) _ rfl (same_blk HZ.out) Tryz.underlying33 rfl (by kernel_rfl)) rfl ?_
  exact ⟨rfl, same_below HB.out⟩
theorem operation_Read.calls (A0 : Option Addr) (c0 : Nat) (l0 : List ByteArray) (r1 r2 r3 r4 r5 r6 r7 : Int) (w : World) (hr0 : Kd.C Kd.string w A0 l0.length l0) (hc0 : l0.length ≤ c0) (hG : GOk w) (h : operation_Read.f l0 = some (r1, r2, r3, r4, r5, r6, r7)) :
    Calls Tryz.prog 123 #[.slice A0 l0.length c0] w fun e w' => e = .returned (.tuple #[.agg #[.int .i64 r1, .int .i64 r2, .int .i64 r3, .int .i64 r4, .int .i64 r5], .int .i64 r6, .int .i64 r7]) ∧ Below w.heap.size w w' := by
  unfold operation_Read.f at h
  by_cases hl : l0.length = 0
  · rw [if_pos hl] at h
    simp only [Option.some.injEq, Prod.mk.injEq] at h
    obtain ⟨rfl, rfl, rfl, rfl, rfl, rfl, rfl⟩ := h
    rw [hl]
    exact read_nil A0 c0 w
  · rw [if_neg hl] at h
    obtain ⟨⟨k, e0⟩, hk, h⟩ := Option.bind_eq_some_iff.1 h
    have hp : 0 < l0.length := by omega
    obtain ⟨ad, rfl, h0⟩ := Kd.at_string hr0 0 (by omega) (by omega)
    have had : ad.block < w.heap.size := World.block_lt_of_cell? w (ad.add (0 : Int).toNat) h0
    have hcell : ∀ i : Int, 0 ≤ i → i < l0.length → w.cell? (ad.add i.toNat) = some (.string (rdOf ByteArray.empty l0 i)) := fun i h1 h2 => by
      obtain ⟨ad', e, hc⟩ := Kd.at_string hr0 i h1 h2
      cases e
      exact hc
    have hK := fun W => operation_Kind.calls _ k e0 W hk
    by_cases he : e0 = 0
    · subst he
      rw [if_neg (show ¬ (0 : Int) ≠ 0 by decide)] at h
      obtain ⟨R, hR, hE⟩ := Option.bind_eq_some_iff.1 h
      have hin : 1 ≤ k ∧ k ≤ 15 := by
        unfold operation_Kind.f at hk
        simp only [Option.some.injEq, Prod.mk.injEq] at hk
        rcases kindIdx_cases (rdOf ByteArray.empty l0 0) with ⟨i, hi, hx⟩ | hx
        · omega
        · rw [if_pos hx] at hk
          omega
      have HY := fun W => by_calls k W
      unfold byK byE at HY
      unfold kdOf at hR hE
      simp only [if_pos hin] at HY hR hE
      have hm := kdOf_mem k hin
      have h3 := kinds_args2 _ hm
      generalize kinds15[(k - 1).toNat]! = x at HY h3 hR hE
      obtain ⟨n, typ, word, args, ret, arg, done, nothing⟩ := x
      simp only at h3 hR hE
      unfold aggK encK at HY
      rcases h3 with rfl | rfl | rfl
      · exact read_0 n typ word ret arg done nothing ad c0 l0 hp hr0.2.1 hc0 k w had hG hcell hK HY R hR r1 r2 r3 r4 r5 r6 r7 hE
      · exact read_1 n typ word ret arg done nothing ad c0 l0 hp hr0.2.1 hc0 k w had hG hcell hK HY R hR r1 r2 r3 r4 r5 r6 r7 hE
      · exact read_2 n typ word ret arg done nothing ad c0 l0 hp hr0.2.1 hc0 k w had hG hcell hK HY R hR r1 r2 r3 r4 r5 r6 r7 hE
    · rw [if_pos he] at h
      simp only [Option.some.injEq, Prod.mk.injEq] at h
      obtain ⟨rfl, rfl, rfl, rfl, rfl, rfl, rfl⟩ := h
      exact read_bad _ e0 he ad c0 l0 hp w had (by simpa [Addr.add] using h0) (fun W => (hK W).mono fun e w' h => ⟨⟨_, h.1⟩, h.2⟩)
end Go.Proofs.YtkjnbfjbdlcehaaGreatDoor.P
