/- operation.Read where the kind has so many arguments. -/
import Derived.Test.YtkjnbfjbdlcehaaGreatDoorERdH
namespace Go.Proofs.YtkjnbfjbdlcehaaGreatDoor.P
open Go.RowKit Go.Proofs.YtkjnbfjbdlcehaaGreatDoorW.PrintWords Go.Proofs.YtkjnbfjbdlcehaaGreatDoorW.PrintLast Go.Proofs.YtkjnbfjbdlcehaaGreatDoorW.PrintMore
set_option linter.unusedVariables false
set_option linter.unusedSimpArgs false
set_option maxHeartbeats 4000000 in
set_option maxRecDepth 100000 in
theorem read_0 (n typ : Int) (word : ByteArray) (ret arg : Nat) (done nothing : Bool) (ad : Addr) (c0 : Nat) (l : List ByteArray) (hl : 0 < l.length) (hl2 : l.length ≤ 9223372036854775807) (hc0 : l.length ≤ c0) (k : Int) (w : World) (had : ad.block < w.heap.size) (hG : GOk w)
    (hcell : ∀ i : Int, 0 ≤ i → i < l.length → w.cell? (ad.add i.toNat) = some (.string (rdOf ByteArray.empty l i)))
    (hkind : ∀ W, Calls Tryz.prog 149 #[.string (rdOf ByteArray.empty l 0)] W fun e w' => e = .returned (.tuple #[.int .i64 k, .int .i64 0]) ∧ Below W.heap.size W w')
    (hby : ∀ W, Calls Tryz.prog 60 #[.int .i64 k] W fun e w' => e = .returned (.tuple #[.agg #[.int .i64 n, .int .i64 typ, .string word, .int .i64 0, .func (.func ret) #[] #[], .func (.func arg) #[] #[], .bool done, .bool nothing], .int .i64 0]) ∧ Below W.heap.size W w')
    (R : (Int × Int × Int × Int) × Nat × Int) (hR : runSteps l [.arrow, .result] 0 (0, 0, 0, 0) = some R) (r1 r2 r3 r4 r5 r6 r7 : Int) (hE : endRead l 2 k R = some (r1, r2, r3, r4, r5, r6, r7)) :
    Calls Tryz.prog 123 #[.slice (some ad) l.length c0] w fun e w' => e = .returned (.tuple #[.agg #[.int .i64 r1, .int .i64 r2, .int .i64 r3, .int .i64 r4, .int .i64 r5], .int .i64 r6, .int .i64 r7]) ∧ Below w.heap.size w w' := by
  have HK := Aside0.mk hkind
  have HY := Aside0.mk hby
  have HC := Aside0.mk hcell
  have HR := Aside0.mk hR
  have HE := Aside0.mk hE
  have HGG := Aside0.mk hG
  have hgB : 4 < w.heap.size := by
    obtain ⟨ev, he, _⟩ := hG
    exact World.block_lt_of_cell? w _ he
  clear hkind hby hcell hR hE hG
  have p1 : ((l.length : Int) == 0) = false := beq_eq_false_iff_ne.2 (by omega)
  have p2 : (0 : Int) < (l.length : Int) := by omega
  have p3 := eq_true p2
  go_enter Tryz.func123, Tryz.ntmps123
  have hcw : w.cell? ad = some (.string (rdOf ByteArray.empty l 0)) := by
    have := HC.out 0 (by omega) (by omega)
    simpa [Addr.add] using this
  go_wp2_with fail
  go_step3
  go_wp2_with fail
  refine (HK.out _).mono ?_
  rintro e w2 ⟨rfl, hb2⟩
  have hz := blk_below (blk_new w _) hb2
  have c0 := (blk_cell hz 0).trans rfl
  have f0 := blk_frozen hz 0
  have HZ2 := Aside0.mk hz
  have hBW : w.heap.size < w2.heap.size := blk_lt hz
  have HB2 := Aside0.mk (((Below.refl _ w).alloc (Nat.le_refl _) _).trans (hb2.mono (by simp)))
  clear hz hb2
  go_wp2_with fail
  refine (HY.out _).mono ?_
  rintro e w3 ⟨rfl, hb3⟩
  have hz := blk_below HZ2.out hb3
  clear c0 f0
  have c0 := (blk_cell hz 0).trans rfl
  have f0 := blk_frozen hz 0
  have HZ3 := Aside0.mk hz
  have hBW3 : w.heap.size < w3.heap.size := blk_lt hz
  have hBW4 : w.heap.size < w3.heap.size + 1 := by omega
  have HB3 := Aside0.mk (HB2.out.trans (hb3.mono HB2.out.size))
  clear hz hb3
  go_wp2_with fail
  clear c0 f0 hcw
  have HF := world2 w w3 k (.cells #[.int .i64 n, .int .i64 typ, .string word, .int .i64 0, .func (.func ret) #[] #[], .func (.func arg) #[] #[], .bool done, .bool nothing] 101) (.cells #[.pointer (some ⟨w.heap.size, 0, none⟩)] 195) hBW3 HB3.out HZ3.out
  generalize ((w3.setCell ⟨w.heap.size, 0, none⟩ (.int .i64 k)).alloc (.cells #[.int .i64 n, .int .i64 typ, .string word, .int .i64 0, .func (.func ret) #[] #[], .func (.func arg) #[] #[], .bool done, .bool nothing] 101)).alloc (.cells #[.pointer (some ⟨w.heap.size, 0, none⟩)] 195) = W at HF ⊢
  clear hBW3 hBW4 HB3 HZ3 HZ2 HB2 hBW
  generalize hgr : w3.heap.size + 1 = gr at HF ⊢
  generalize w3.heap.size = gk at HF hgr ⊢
  obtain ⟨hz, hkd, hrd, hB⟩ := HF
  have HZ := Aside0.mk hz
  have HB := Aside0.mk hB
  have k1 := (blk_cell hkd 3).trans rfl
  have r1c := (blk_cell hrd 0).trans rfl
  have l1 := blk_lt hkd
  have l2 := blk_lt hrd
  have l1a : gk < W.heap.size + 1 := by omega
  have l1b : gk < W.heap.size + 1 + 1 := by omega
  have l2a : gr < W.heap.size + 1 := by omega
  have l2b : gr < W.heap.size + 1 + 1 := by omega
  have m1 : gk ≠ W.heap.size := by omega
  have m1a : gk ≠ W.heap.size + 1 := by omega
  have m1b : gk ≠ W.heap.size + 1 + 1 := by omega
  have m2 : gr ≠ W.heap.size := by omega
  have m2a : gr ≠ W.heap.size + 1 := by omega
  have m2b : gr ≠ W.heap.size + 1 + 1 := by omega
  clear hz hB hkd hrd hgr
  refine wp_onlyK fun K hK => ?_
  refine wp_region_held_drew (S := fun w' => w'.cell? ⟨gr, 0, none⟩ = some (.pointer (some ⟨w.heap.size, 0, none⟩)) ∧ w'.cell? ⟨gk, 3, none⟩ = some (.int .i64 0)) (by kernel_rfl) ?_ (fun hHeld => ?_)
  · go_keep
  refine wpAnyH_take (i := 0) (v := .agg #[.pointer (some ⟨w.heap.size, 0, none⟩)]) rfl (by kernel_rfl) (by kernel_rfl) (by kernel_rfl) (fun _ _ _ h => h) (Or.inl ⟨by rfl, fun w' hSw => ?_⟩) (by assumption) ?_
  · obtain ⟨hs1, hs2⟩ := hSw
    go_simp
  simp only [Act.put, List.getElem_toArray, List.getElem_cons_zero, List.getElem_cons_succ, List.setIfInBounds_toArray, List.set_cons_zero, List.set_cons_succ]
  refine wpAnyH_take (i := 1) (v := .func (.func 150) #[.agg #[.pointer (some ⟨w.heap.size, 0, none⟩)]] #[]) rfl (by kernel_rfl) (by kernel_rfl) (by kernel_rfl) (fun _ _ _ h => h) (Or.inl ⟨by rfl, fun w' hSw => ?_⟩) (by assumption) ?_
  · obtain ⟨hs1, hs2⟩ := hSw
    go_simp
  simp only [Act.put, List.getElem_toArray, List.getElem_cons_zero, List.getElem_cons_succ, List.setIfInBounds_toArray, List.set_cons_zero, List.set_cons_succ]
  refine wpAnyH_take (i := 2) (v := .agg #[.pointer (some ⟨w.heap.size, 0, none⟩)]) rfl (by kernel_rfl) (by kernel_rfl) (by kernel_rfl) (fun _ _ _ h => h) (Or.inl ⟨by rfl, fun w' hSw => ?_⟩) (by assumption) ?_
  · obtain ⟨hs1, hs2⟩ := hSw
    go_simp
  simp only [Act.put, List.getElem_toArray, List.getElem_cons_zero, List.getElem_cons_succ, List.setIfInBounds_toArray, List.set_cons_zero, List.set_cons_succ]
  refine wpAnyH_take (i := 3) (v := .func (.func 151) #[.agg #[.pointer (some ⟨w.heap.size, 0, none⟩)]] #[]) rfl (by kernel_rfl) (by kernel_rfl) (by kernel_rfl) (fun _ _ _ h => h) (Or.inl ⟨by rfl, fun w' hSw => ?_⟩) (by assumption) ?_
  · obtain ⟨hs1, hs2⟩ := hSw
    go_simp
  simp only [Act.put, List.getElem_toArray, List.getElem_cons_zero, List.getElem_cons_succ, List.setIfInBounds_toArray, List.set_cons_zero, List.set_cons_succ]
  refine wpAnyH_take (i := 5) (v := .pointer (some ⟨gk, 3, none⟩)) rfl (by kernel_rfl) (by kernel_rfl) (by kernel_rfl) (fun _ _ _ h => h) (Or.inl ⟨by rfl, fun w' hSw => ?_⟩) (by assumption) ?_
  · obtain ⟨hs1, hs2⟩ := hSw
    go_simp
  simp only [Act.put, List.getElem_toArray, List.getElem_cons_zero, List.getElem_cons_succ, List.setIfInBounds_toArray, List.set_cons_zero, List.set_cons_succ]
  refine wpAnyH_take (i := 6) (v := .int .i64 0) rfl (by kernel_rfl) (by kernel_rfl) (by kernel_rfl) (fun _ _ _ h => h) (Or.inl ⟨by rfl, fun w' hSw => ?_⟩) (by assumption) ?_
  · obtain ⟨hs1, hs2⟩ := hSw
    go_simp
  simp only [Act.put, List.getElem_toArray, List.getElem_cons_zero, List.getElem_cons_succ, List.setIfInBounds_toArray, List.set_cons_zero, List.set_cons_succ]
  refine wpAnyH_take (i := 7) (v := .pointer (some ⟨gk, 3, none⟩)) rfl (by kernel_rfl) (by kernel_rfl) (by kernel_rfl) (fun _ _ _ h => h) (Or.inl ⟨by rfl, fun w' hSw => ?_⟩) (by assumption) ?_
  · obtain ⟨hs1, hs2⟩ := hSw
    go_simp
  simp only [Act.put, List.getElem_toArray, List.getElem_cons_zero, List.getElem_cons_succ, List.setIfInBounds_toArray, List.set_cons_zero, List.set_cons_succ]
  refine wpAnyH_take (i := 8) (v := .int .i64 0) rfl (by kernel_rfl) (by kernel_rfl) (by kernel_rfl) (fun _ _ _ h => h) (Or.inl ⟨by rfl, fun w' hSw => ?_⟩) (by assumption) ?_
  · obtain ⟨hs1, hs2⟩ := hSw
    go_simp
  simp only [Act.put, List.getElem_toArray, List.getElem_cons_zero, List.getElem_cons_succ, List.setIfInBounds_toArray, List.set_cons_zero, List.set_cons_succ]
  refine wpAnyH_take (i := 10) (v := .agg #[.pointer (some ⟨w.heap.size, 0, none⟩)]) rfl (by kernel_rfl) (by kernel_rfl) (by kernel_rfl) (fun _ _ _ h => h) (Or.inl ⟨by rfl, fun w' hSw => ?_⟩) (by assumption) ?_
  · obtain ⟨hs1, hs2⟩ := hSw
    go_simp
  simp only [Act.put, List.getElem_toArray, List.getElem_cons_zero, List.getElem_cons_succ, List.setIfInBounds_toArray, List.set_cons_zero, List.set_cons_succ]
  refine wpAnyH_take (i := 11) (v := .func (.func 152) #[.agg #[.pointer (some ⟨w.heap.size, 0, none⟩)]] #[]) rfl (by kernel_rfl) (by kernel_rfl) (by kernel_rfl) (fun _ _ _ h => h) (Or.inl ⟨by rfl, fun w' hSw => ?_⟩) (by assumption) ?_
  · obtain ⟨hs1, hs2⟩ := hSw
    go_simp
  simp only [Act.put, List.getElem_toArray, List.getElem_cons_zero, List.getElem_cons_succ, List.setIfInBounds_toArray, List.set_cons_zero, List.set_cons_succ]
  refine wpAnyH_take (i := 12) (v := .agg #[.pointer (some ⟨w.heap.size, 0, none⟩)]) rfl (by kernel_rfl) (by kernel_rfl) (by kernel_rfl) (fun _ _ _ h => h) (Or.inl ⟨by rfl, fun w' hSw => ?_⟩) (by assumption) ?_
  · obtain ⟨hs1, hs2⟩ := hSw
    go_simp
  simp only [Act.put, List.getElem_toArray, List.getElem_cons_zero, List.getElem_cons_succ, List.setIfInBounds_toArray, List.set_cons_zero, List.set_cons_succ]
  refine wpAnyH_take (i := 13) (v := .func (.func 153) #[.agg #[.pointer (some ⟨w.heap.size, 0, none⟩)]] #[]) rfl (by kernel_rfl) (by kernel_rfl) (by kernel_rfl) (fun _ _ _ h => h) (Or.inl ⟨by rfl, fun w' hSw => ?_⟩) (by assumption) ?_
  · obtain ⟨hs1, hs2⟩ := hSw
    go_simp
  simp only [Act.put, List.getElem_toArray, List.getElem_cons_zero, List.getElem_cons_succ, List.setIfInBounds_toArray, List.set_cons_zero, List.set_cons_succ]
  refine wpAnyH_ready (rs := [4, 14]) (by kernel_rfl) (by simp) ?_
  refine AllReadyH.cons (o := _) rfl (fun K1 hK1 => ?wa) (AllReadyH.cons (o := _) rfl (fun K1 hK1 => ?wb) AllReadyH.nil)
  case' wa =>
    go_simp
    refine hK1.out _ _ ?_ (fun hHeld => ?_)
    · first | (go_keep; done) | (exact ⟨keep3 r1c _ _ _, keep3 k1 _ _ _⟩)
    clear hK1 K1
    try simp only [Act.put, List.getElem_toArray, List.getElem_cons_zero, List.getElem_cons_succ, List.setIfInBounds_toArray, List.set_cons_zero, List.set_cons_succ]
    refine wpAnyH_take (i := 9) (v := .slice (some ⟨W.heap.size, 0, none⟩) 0 0) rfl (by kernel_rfl) (by kernel_rfl) (by kernel_rfl) (fun _ _ _ h => h) (Or.inl ⟨by rfl, fun w' hSw => ?_⟩) (by assumption) ?_
    · go_simp
    simp only [Act.put, List.getElem_toArray, List.getElem_cons_zero, List.getElem_cons_succ, List.setIfInBounds_toArray, List.set_cons_zero, List.set_cons_succ]
    refine wpAnyH_ready (rs := [14]) (by kernel_rfl) (by simp) ?_
    refine AllReadyH.cons (o := _) rfl (fun K1 hK1 => ?_) AllReadyH.nil
    go_simp
    refine hK1.out _ _ ?_ (fun hHeld => ?_)
    · first | (go_keep; done) | (exact ⟨keep3 r1c _ _ _, keep3 k1 _ _ _⟩)
    clear hK1 K1
    try simp only [Act.put, List.getElem_toArray, List.getElem_cons_zero, List.getElem_cons_succ, List.setIfInBounds_toArray, List.set_cons_zero, List.set_cons_succ]
    refine wpAnyH_ready (rs := [15]) (by kernel_rfl) (by simp) ?_
    refine AllReadyH.cons (o := _) rfl (fun K1 hK1 => ?_) AllReadyH.nil
    go_wp2_with fail
    refine hK1.out _ _ ?_ (fun hHeld => ?_)
    · first | (go_keep; done) | (exact ⟨keep3 r1c _ _ _, keep3 k1 _ _ _⟩)
    clear hK1 K1
    try simp only [Act.put, List.getElem_toArray, List.getElem_cons_zero, List.getElem_cons_succ, List.setIfInBounds_toArray, List.set_cons_zero, List.set_cons_succ]
    refine wpAnyH_take (i := 16) (v := ?va) rfl (by kernel_rfl) (by kernel_rfl) (by kernel_rfl) (fun _ _ _ h => h) (Or.inl ⟨by rfl, ?hya⟩) (by assumption) ?resta
    case hya =>
      intro w' hSw
      go_simp
      with_reducible rfl
    simp only [Act.put, List.getElem_toArray, List.getElem_cons_zero, List.getElem_cons_succ, List.setIfInBounds_toArray, List.set_cons_zero, List.set_cons_succ]
    refine wpAnyH_done (by kernel_rfl) ?_ _
    show K _ _
    refine hK _ _ ?_
    clear hK K
  case' wb =>
    go_simp
    refine hK1.out _ _ ?_ (fun hHeld => ?_)
    · first | (go_keep; done) | (exact ⟨keep3 r1c _ _ _, keep3 k1 _ _ _⟩)
    clear hK1 K1
    try simp only [Act.put, List.getElem_toArray, List.getElem_cons_zero, List.getElem_cons_succ, List.setIfInBounds_toArray, List.set_cons_zero, List.set_cons_succ]
    refine wpAnyH_ready (rs := [4]) (by kernel_rfl) (by simp) ?_
    refine AllReadyH.cons (o := _) rfl (fun K1 hK1 => ?_) AllReadyH.nil
    go_simp
    refine hK1.out _ _ ?_ (fun hHeld => ?_)
    · first | (go_keep; done) | (exact ⟨keep3 r1c _ _ _, keep3 k1 _ _ _⟩)
    clear hK1 K1
    try simp only [Act.put, List.getElem_toArray, List.getElem_cons_zero, List.getElem_cons_succ, List.setIfInBounds_toArray, List.set_cons_zero, List.set_cons_succ]
    refine wpAnyH_take (i := 9) (v := .slice (some ⟨W.heap.size + 1, 0, none⟩) 0 0) rfl (by kernel_rfl) (by kernel_rfl) (by kernel_rfl) (fun _ _ _ h => h) (Or.inl ⟨by rfl, fun w' hSw => ?_⟩) (by assumption) ?_
    · go_simp
    simp only [Act.put, List.getElem_toArray, List.getElem_cons_zero, List.getElem_cons_succ, List.setIfInBounds_toArray, List.set_cons_zero, List.set_cons_succ]
    refine wpAnyH_ready (rs := [15]) (by kernel_rfl) (by simp) ?_
    refine AllReadyH.cons (o := _) rfl (fun K1 hK1 => ?_) AllReadyH.nil
    go_wp2_with fail
    refine hK1.out _ _ ?_ (fun hHeld => ?_)
    · first | (go_keep; done) | (exact ⟨keep3 r1c _ _ _, keep3 k1 _ _ _⟩)
    clear hK1 K1
    try simp only [Act.put, List.getElem_toArray, List.getElem_cons_zero, List.getElem_cons_succ, List.setIfInBounds_toArray, List.set_cons_zero, List.set_cons_succ]
    refine wpAnyH_take (i := 16) (v := ?vb) rfl (by kernel_rfl) (by kernel_rfl) (by kernel_rfl) (fun _ _ _ h => h) (Or.inl ⟨by rfl, ?hyb⟩) (by assumption) ?restb
    case hyb =>
      intro w' hSw
      go_simp
      with_reducible rfl
    simp only [Act.put, List.getElem_toArray, List.getElem_cons_zero, List.getElem_cons_succ, List.setIfInBounds_toArray, List.set_cons_zero, List.set_cons_succ]
    refine wpAnyH_done (by kernel_rfl) ?_ _
    show K _ _
    refine hK _ _ ?_
    clear hK K
  all_goals
    clear hHeld k1 r1c l1 l2 l1a l1b l2a l2b m1 m1a m1b m2 m2a m2b
    generalize (Question.appendCap 2 0 71).cut (W.tape (W.drawn + 1) (Question.appendCap 2 0 71)) = cap9
    refine then_world (fun WW => WW.heap[w.heap.size]? = some (.cells (opCells k 0 0 0 0) 33) ∧ (∃ cs, WW.heap[W.heap.size + 1 + 1]? = some (.cells cs 71) ∧ cs[0]? = some (.func (.func 152) #[.agg #[.pointer (some ⟨w.heap.size, 0, none⟩)]] #[]) ∧ cs[1]? = some (.func (.func 153) #[.agg #[.pointer (some ⟨w.heap.size, 0, none⟩)]] #[])) ∧ Below w.heap.size w WW) ⟨(steps_world w W _ _ _ _ HZ.out HB.out).1, ⟨_, (steps_world w W _ _ _ _ HZ.out HB.out).2.1, (by rw [Array.getElem?_append_left (by simp)]; rfl), (by rw [Array.getElem?_append_left (by simp)]; rfl)⟩, (steps_world w W _ _ _ _ HZ.out HB.out).2.2⟩ fun W0 HF => ?_
    clear HZ HB
    generalize W.heap.size + 1 + 1 = gs at HF ⊢
    obtain ⟨hz, ⟨cs, hst, q0, q1⟩, hB⟩ := HF
    have HZ := Aside0.mk hz
    have HS := Aside0.mk hst
    have HB := Aside0.mk hB
    clear hz hst hB
    have Q0 := Aside0.mk q0
    have Q1 := Aside0.mk q1
    clear q0 q1
    go_wp2_with fail
    go_step3
    go_wp2_with fail
    refine wp_loop_rounds 3 ?_
    have HL := Aside0.mk hl
    rw [rounds_succ]
    have st0 := (blk_cell HS.out 0).trans Q0.out
    have gl0 := blk_lt HS.out
    by_cases cj0 : 0 + 1 = l.length
    · have e1 : ((1 : Int) == (l.length : Int)) = true := beq_iff_eq.2 (by omega)
      have hR := HR.out
      unfold runSteps at hR
      rw [if_pos cj0] at hR
      have hR := (Option.some.inj hR).symm
      have hE := HE.out
      rw [hR] at hE
      unfold endRead at hE
      rw [if_pos (show (5 : Int) ≠ 0 by decide)] at hE
      simp only [Option.some.injEq, Prod.mk.injEq] at hE
      obtain ⟨rfl, rfl, rfl, rfl, rfl, rfl, rfl⟩ := hE
      clear cj0
      have c0' := (blk_cell HZ.out 0).trans rfl
      have c1' := (blk_cell HZ.out 1).trans rfl
      have c2' := (blk_cell HZ.out 2).trans rfl
      have c3' := (blk_cell HZ.out 3).trans rfl
      have c4' := (blk_cell HZ.out 4).trans rfl
      have f0' := blk_frozen HZ.out 0
      have f1' := blk_frozen HZ.out 1
      have f2' := blk_frozen HZ.out 2
      have f3' := blk_frozen HZ.out 3
      have f4' := blk_frozen HZ.out 4
      have s1 := blk_lt HZ.out
      go_wp2
      try rw [Exit.noGoto_ret]
      refine bodyPost_ret (results_ctt rfl _ _ w.heap.size 33 #[.int .i64 0, .int .i64 0, .int .i64 0, .int .i64 0, .int .i64 0] (0, 0) _ rfl (zero_blk HZ.out) Tryz.underlying33 rfl (by kernel_rfl)) rfl ?_
      exact ⟨rfl, zero_below HB.out⟩
    have e1 : ((1 : Int) == (l.length : Int)) = false := beq_eq_false_iff_ne.2 (by omega)
    have pj0 : (1 : Int) < (l.length : Int) := by have := HL.out; omega
    have HL' := Aside0.mk (show 1 < l.length by omega)
    clear HL
    have HL := HL'
    clear HL'
    have pk0 := eq_true pj0
    have hcw : W0.cell? ⟨ad.block, ad.off + 1, none⟩ = some (.string (rdOf ByteArray.empty l 1)) := by
      have h := HC.out 1 (by omega) (by omega)
      exact (HB.out.cell (p := ⟨ad.block, ad.off + 1, none⟩) had).trans (by simpa [Addr.add] using h)
    have hR := HR.out
    unfold runSteps at hR
    rw [if_neg cj0] at hR
    obtain ⟨⟨y0, e0v⟩, hs, hR⟩ := Option.bind_eq_some_iff.1 hR
    have HT := Aside0.mk (show stepF .arrow (rdOf ByteArray.empty l 1) (0, 0, 0, 0) = some (y0, e0v) from hs)
    have HR' := Aside0.mk hR
    clear hR hs HR cj0
    go_wp2_with fail
    refine (step_calls .arrow _ w.heap.size k (0, 0, 0, 0) y0 e0v _ (GOk.below HGG.out HB.out) hgB HZ.out HT.out).mono ?_
    rintro e W1 ⟨rfl, hz, hg⟩
    have HB' := Aside0.mk (HB.out.trans (gBelow hg (blk_lt HZ.out)))
    have HS' := Aside0.mk (blk_grown HS.out hg (by intro e; injection e with e; subst e; exact absurd (HZ.out.symm.trans HS.out) (by simp)))
    have HZ' := Aside0.mk hz
    clear hz hg HZ HS HB hcw pj0 pk0 e1 st0 gl0 HT
    have HZ := HZ'
    have HS := HS'
    have HB := HB'
    clear HZ' HS' HB'
    by_cases ce : e0v = 0
    rotate_left 1
    · have he1 : (e0v == 0) = false := beq_eq_false_iff_ne.2 ce
      have he2 : (e0v != 0) = true := bne_iff_ne.2 ce
      have hR := HR'.out
      rw [if_neg ce] at hR
      have hR := (Option.some.inj hR).symm
      have hE := HE.out
      rw [hR] at hE
      unfold endRead at hE
      rw [if_pos (ce)] at hE
      simp only [Option.some.injEq, Prod.mk.injEq] at hE
      obtain ⟨rfl, rfl, rfl, rfl, rfl, rfl, rfl⟩ := hE
      have c0' := (blk_cell HZ.out 0).trans rfl
      have c1' := (blk_cell HZ.out 1).trans rfl
      have c2' := (blk_cell HZ.out 2).trans rfl
      have c3' := (blk_cell HZ.out 3).trans rfl
      have c4' := (blk_cell HZ.out 4).trans rfl
      have f0' := blk_frozen HZ.out 0
      have f1' := blk_frozen HZ.out 1
      have f2' := blk_frozen HZ.out 2
      have f3' := blk_frozen HZ.out 3
      have f4' := blk_frozen HZ.out 4
      have s1 := blk_lt HZ.out
      go_wp2
      try rw [Exit.noGoto_ret]
      refine bodyPost_ret (results_ctt rfl _ _ w.heap.size 33 #[.int .i64 0, .int .i64 0, .int .i64 0, .int .i64 0, .int .i64 0] (0, 0) _ rfl (zero_blk HZ.out) Tryz.underlying33 rfl (by kernel_rfl)) rfl ?_
      exact ⟨rfl, zero_below HB.out⟩
    subst ce
    have hR := HR'.out
    rw [if_pos rfl] at hR
    have HR := Aside0.mk (show runSteps l [.result] 1 y0 = some R from hR)
    clear HR' hR
    go_wp2_with fail
    rw [rounds_succ]
    have st1 := (blk_cell HS.out 1).trans Q1.out
    have gl1 := blk_lt HS.out
    by_cases cj1 : 1 + 1 = l.length
    · have e1 : ((2 : Int) == (l.length : Int)) = true := beq_iff_eq.2 (by omega)
      have hR := HR.out
      unfold runSteps at hR
      rw [if_pos cj1] at hR
      have hR := (Option.some.inj hR).symm
      have hE := HE.out
      rw [hR] at hE
      unfold endRead at hE
      rw [if_pos (show (5 : Int) ≠ 0 by decide)] at hE
      simp only [Option.some.injEq, Prod.mk.injEq] at hE
      obtain ⟨rfl, rfl, rfl, rfl, rfl, rfl, rfl⟩ := hE
      clear cj1
      have c0' := (blk_cell HZ.out 0).trans rfl
      have c1' := (blk_cell HZ.out 1).trans rfl
      have c2' := (blk_cell HZ.out 2).trans rfl
      have c3' := (blk_cell HZ.out 3).trans rfl
      have c4' := (blk_cell HZ.out 4).trans rfl
      have f0' := blk_frozen HZ.out 0
      have f1' := blk_frozen HZ.out 1
      have f2' := blk_frozen HZ.out 2
      have f3' := blk_frozen HZ.out 3
      have f4' := blk_frozen HZ.out 4
      have s1 := blk_lt HZ.out
      go_wp2
      try rw [Exit.noGoto_ret]
      refine bodyPost_ret (results_ctt rfl _ _ w.heap.size 33 #[.int .i64 0, .int .i64 0, .int .i64 0, .int .i64 0, .int .i64 0] (0, 0) _ rfl (zero_blk HZ.out) Tryz.underlying33 rfl (by kernel_rfl)) rfl ?_
      exact ⟨rfl, zero_below HB.out⟩
    have e1 : ((2 : Int) == (l.length : Int)) = false := beq_eq_false_iff_ne.2 (by omega)
    have pj1 : (2 : Int) < (l.length : Int) := by have := HL.out; omega
    have HL' := Aside0.mk (show 2 < l.length by omega)
    clear HL
    have HL := HL'
    clear HL'
    have pk1 := eq_true pj1
    have hcw : W1.cell? ⟨ad.block, ad.off + 2, none⟩ = some (.string (rdOf ByteArray.empty l 2)) := by
      have h := HC.out 2 (by omega) (by omega)
      exact (HB.out.cell (p := ⟨ad.block, ad.off + 2, none⟩) had).trans (by simpa [Addr.add] using h)
    have hR := HR.out
    unfold runSteps at hR
    rw [if_neg cj1] at hR
    obtain ⟨⟨y1, e1v⟩, hs, hR⟩ := Option.bind_eq_some_iff.1 hR
    have HT := Aside0.mk (show stepF .result (rdOf ByteArray.empty l 2) y0 = some (y1, e1v) from hs)
    have HR' := Aside0.mk hR
    clear hR hs HR cj1
    go_wp2_with fail
    refine (step_calls .result _ w.heap.size k y0 y1 e1v _ (GOk.below HGG.out HB.out) hgB HZ.out HT.out).mono ?_
    rintro e W2 ⟨rfl, hz, hg⟩
    have HB' := Aside0.mk (HB.out.trans (gBelow hg (blk_lt HZ.out)))
    have HS' := Aside0.mk (blk_grown HS.out hg (by intro e; injection e with e; subst e; exact absurd (HZ.out.symm.trans HS.out) (by simp)))
    have HZ' := Aside0.mk hz
    clear hz hg HZ HS HB hcw pj1 pk1 e1 st1 gl1 HT
    have HZ := HZ'
    have HS := HS'
    have HB := HB'
    clear HZ' HS' HB'
    by_cases ce : e1v = 0
    rotate_left 1
    · have he1 : (e1v == 0) = false := beq_eq_false_iff_ne.2 ce
      have he2 : (e1v != 0) = true := bne_iff_ne.2 ce
      have hR := HR'.out
      rw [if_neg ce] at hR
      have hR := (Option.some.inj hR).symm
      have hE := HE.out
      rw [hR] at hE
      unfold endRead at hE
      rw [if_pos (ce)] at hE
      simp only [Option.some.injEq, Prod.mk.injEq] at hE
      obtain ⟨rfl, rfl, rfl, rfl, rfl, rfl, rfl⟩ := hE
      have c0' := (blk_cell HZ.out 0).trans rfl
      have c1' := (blk_cell HZ.out 1).trans rfl
      have c2' := (blk_cell HZ.out 2).trans rfl
      have c3' := (blk_cell HZ.out 3).trans rfl
      have c4' := (blk_cell HZ.out 4).trans rfl
      have f0' := blk_frozen HZ.out 0
      have f1' := blk_frozen HZ.out 1
      have f2' := blk_frozen HZ.out 2
      have f3' := blk_frozen HZ.out 3
      have f4' := blk_frozen HZ.out 4
      have s1 := blk_lt HZ.out
      go_wp2
      try rw [Exit.noGoto_ret]
      refine bodyPost_ret (results_ctt rfl _ _ w.heap.size 33 #[.int .i64 0, .int .i64 0, .int .i64 0, .int .i64 0, .int .i64 0] (0, 0) _ rfl (zero_blk HZ.out) Tryz.underlying33 rfl (by kernel_rfl)) rfl ?_
      exact ⟨rfl, zero_below HB.out⟩
    subst ce
    have hR := HR'.out
    rw [if_pos rfl] at hR
    have HR := Aside0.mk (show runSteps l [] 2 y1 = some R from hR)
    clear HR' hR
    go_wp2_with fail
    rw [rounds_succ]
    have hR := (Option.some.inj HR.out).symm
    have hE := HE.out
    rw [hR] at hE
    unfold endRead at hE
    rw [if_neg (show ¬ (0 : Int) ≠ 0 by decide)] at hE
    clear hR HR HE
    by_cases cl : 2 + 1 < l.length
    · have g1 : decide ((3 : Int) < (l.length : Int)) = true := decide_eq_true (by omega)
      rw [if_pos cl] at hE
      simp only [Option.some.injEq, Prod.mk.injEq] at hE
      obtain ⟨rfl, rfl, rfl, rfl, rfl, rfl, rfl⟩ := hE
      clear cl
      have c0' := (blk_cell HZ.out 0).trans rfl
      have c1' := (blk_cell HZ.out 1).trans rfl
      have c2' := (blk_cell HZ.out 2).trans rfl
      have c3' := (blk_cell HZ.out 3).trans rfl
      have c4' := (blk_cell HZ.out 4).trans rfl
      have f0' := blk_frozen HZ.out 0
      have f1' := blk_frozen HZ.out 1
      have f2' := blk_frozen HZ.out 2
      have f3' := blk_frozen HZ.out 3
      have f4' := blk_frozen HZ.out 4
      have s1 := blk_lt HZ.out
      go_wp2
      try rw [Exit.noGoto_ret]
      refine bodyPost_ret (results_ctt rfl _ _ w.heap.size 33 #[.int .i64 0, .int .i64 0, .int .i64 0, .int .i64 0, .int .i64 0] (0, 0) _ rfl (zero_blk HZ.out) Tryz.underlying33 rfl (by kernel_rfl)) rfl ?_
      exact ⟨rfl, zero_below HB.out⟩
    have g1 : decide ((3 : Int) < (l.length : Int)) = false := decide_eq_false (by omega)
    rw [if_neg cl] at hE
    clear cl
    obtain ⟨c, hck, hE⟩ := Option.bind_eq_some_iff.1 hE
    have HE := Aside0.mk hE
    have HCK := Aside0.mk hck
    clear hE hck
    have c0' := (blk_cell HZ.out 0).trans rfl
    have c1' := (blk_cell HZ.out 1).trans rfl
    have c2' := (blk_cell HZ.out 2).trans rfl
    have c3' := (blk_cell HZ.out 3).trans rfl
    have c4' := (blk_cell HZ.out 4).trans rfl
    go_wp2_with fail
    refine (operation_Check.calls k _ _ _ _ c _ HCK.out).mono ?_
    rintro e W9 ⟨rfl, hb⟩
    have HZ' := Aside0.mk (blk_below HZ.out hb)
    have HB' := Aside0.mk (HB.out.trans (hb.mono HB.out.size))
    clear hb HZ HB c0' c1' c2' c3' c4'
    have HZ := HZ'
    have HB := HB'
    clear HZ' HB'
    have hE := HE.out
    have c0' := (blk_cell HZ.out 0).trans rfl
    have c1' := (blk_cell HZ.out 1).trans rfl
    have c2' := (blk_cell HZ.out 2).trans rfl
    have c3' := (blk_cell HZ.out 3).trans rfl
    have c4' := (blk_cell HZ.out 4).trans rfl
    have f0' := blk_frozen HZ.out 0
    have f1' := blk_frozen HZ.out 1
    have f2' := blk_frozen HZ.out 2
    have f3' := blk_frozen HZ.out 3
    have f4' := blk_frozen HZ.out 4
    have s1 := blk_lt HZ.out
    by_cases d0 : c = 0
    · subst d0
      rw [if_pos rfl] at hE
      simp only [Option.some.injEq, Prod.mk.injEq] at hE
      obtain ⟨rfl, rfl, rfl, rfl, rfl, rfl, rfl⟩ := hE
      go_wp2
      try rw [Exit.noGoto_ret]
      refine bodyPost_ret (results_ctt rfl _ _ w.heap.size 33 (opCells k y1.1 y1.2.1 y1.2.2.1 y1.2.2.2) (0, 0) _ rfl (same_blk HZ.out) Tryz.underlying33 rfl (by kernel_rfl)) rfl ?_
      exact ⟨rfl, same_below HB.out⟩
    rw [if_neg d0] at hE
    have d0a : (c == 0) = false := beq_eq_false_iff_ne.2 d0
    have d0b : (c != 0) = true := bne_iff_ne.2 d0
    by_cases d2 : c = 2
    · subst d2
      rw [if_pos rfl] at hE
      simp only [Option.some.injEq, Prod.mk.injEq] at hE
      obtain ⟨rfl, rfl, rfl, rfl, rfl, rfl, rfl⟩ := hE
      go_wp2
      try rw [Exit.noGoto_ret]
      refine bodyPost_ret (results_ctt rfl _ _ w.heap.size 33 #[.int .i64 0, .int .i64 0, .int .i64 0, .int .i64 0, .int .i64 0] (0, 0) _ rfl (zero_blk HZ.out) Tryz.underlying33 rfl (by kernel_rfl)) rfl ?_
      exact ⟨rfl, zero_below HB.out⟩
    rw [if_neg d2] at hE
    have d2a : (c == 2) = false := beq_eq_false_iff_ne.2 d2
    by_cases d9 : c = 9
    · subst d9
      rw [if_pos rfl] at hE
      simp only [Option.some.injEq, Prod.mk.injEq] at hE
      obtain ⟨rfl, rfl, rfl, rfl, rfl, rfl, rfl⟩ := hE
      go_wp2
      try rw [Exit.noGoto_ret]
      refine bodyPost_ret (results_ctt rfl _ _ w.heap.size 33 #[.int .i64 0, .int .i64 0, .int .i64 0, .int .i64 0, .int .i64 0] (0, 0) _ rfl (zero_blk HZ.out) Tryz.underlying33 rfl (by kernel_rfl)) rfl ?_
      exact ⟨rfl, zero_below HB.out⟩
    rw [if_neg d9] at hE
    have d9a : (c == 9) = false := beq_eq_false_iff_ne.2 d9
    simp only [Option.some.injEq, Prod.mk.injEq] at hE
    obtain ⟨rfl, rfl, rfl, rfl, rfl, rfl, rfl⟩ := hE
    go_wp2
    try rw [Exit.noGoto_ret]
    refine bodyPost_ret (results_ctt rfl _ _ w.heap.size 33 #[.int .i64 0, .int .i64 0, .int .i64 0, .int .i64 0, .int .i64 0] (0, 0) _ rfl (zero_blk HZ.out) Tryz.underlying33 rfl (by kernel_rfl)) rfl ?_
    exact ⟨rfl, zero_below HB.out⟩
end Go.Proofs.YtkjnbfjbdlcehaaGreatDoor.P
