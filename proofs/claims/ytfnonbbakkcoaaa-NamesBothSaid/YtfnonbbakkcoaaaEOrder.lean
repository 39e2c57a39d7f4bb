/- (*names.Table).Order. -/
import Derived.Test.YtfnonbbakkcoaaaM03Names
import Derived.Test.YtfnonbbakkcoaaaECmp03
namespace Go.Proofs.Ytfnonbbakkcoaaa.P
open Go.RowKit Go.Proofs.YtfnonbbakkcoaaaW.PrintWords Go.Proofs.YtfnonbbakkcoaaaW.PrintLast Go.Proofs.YtfnonbbakkcoaaaW.PrintMore Go.Maps
set_option linter.unusedVariables false
set_option linter.unusedSimpArgs false
theorem infoI : (Try.prog.info? 3).map (fun i => (i.zero, i.size, i.bytes)) = some (some (.int .i64 0), 1, 8) := by kernel_rfl
set_option maxRecDepth 100000 in
set_option maxHeartbeats 2000000 in
theorem ins_nil (g : Nat) (cb : Array Value) (w : World) : Calls Try.prog 38 #[.slice none 0 0, .int .i64 0, .int .i64 0, .func (.func g) #[] cb] w fun e w' => e = .returned (.tuple #[]) ∧ Below w.heap.size w w' := by
  go_enter Try.func38, Try.ntmps38
  go_wp2
  go_loopg [8] 1 (fun g v8 wr => v8 = .int .i64 1 ∧ wr = w)
  case atStart => exact ⟨rfl, rfl⟩
  case round =>
    obtain ⟨rfl, rfl⟩ := hrel
    go_wp2
    go_end0
    exact ⟨rfl, Below.refl _ _⟩
set_option maxRecDepth 100000 in
set_option maxHeartbeats 2000000 in
theorem pdq_nil (g : Nat) (cb : Array Value) (w : World) : Calls Try.prog 35 #[.slice none 0 0, .int .i64 0, .int .i64 0, .int .i64 0, .func (.func g) #[] cb] w fun e w' => e = .returned (.tuple #[]) ∧ Below w.heap.size w w' := by
  have HI := Aside0.mk (ins_nil g cb)
  go_enter Try.func35, Try.ntmps35
  go_wp2_with fail
  go_loopg [1, 2, 3] 1 (fun g v1 v2 v3 wr => v1 = .int .i64 0 ∧ v2 = .int .i64 0 ∧ v3 = .int .i64 0 ∧ wr = w)
  case atStart => exact ⟨rfl, rfl, rfl, rfl⟩
  case round =>
    obtain ⟨rfl, rfl, rfl, rfl⟩ := hrel
    go_wp2_with fail
    refine (HI.out _).mono ?_
    rintro e w1 ⟨rfl, hb⟩
    go_wp2
    refine bodyPost_ret (results_none rfl _ _ _) rfl ?_
    exact ⟨rfl, hb⟩
set_option maxRecDepth 100000 in
set_option maxHeartbeats 2000000 in
theorem sort_nil (g : Nat) (cb : Array Value) (w : World) : Calls Try.prog 31 #[.slice none 0 0, .func (.func g) #[] cb] w fun e w' => e = .returned (.tuple #[]) ∧ Below w.heap.size w w' := by
  have hl : ∀ w, Calls Try.prog 36 #[.int .u64 0] w fun e w' => e = .returned (.int .i64 0) ∧ w' = w := fun w => Any.bits_Len (SlLaysF0.n15.bits (P := Try.prog) (ρ := Try.laysSlF6_f31_ren) { Try.laysSlF6_f31 with }) 0 w (by omega) (by omega)
  have HL := Aside0.mk hl
  have HI := Aside0.mk (pdq_nil g cb)
  clear hl
  go_enter Try.func31, Try.ntmps31
  go_wp2_with fail
  refine (HL.out _).mono ?_
  rintro e w1 ⟨rfl, rfl⟩
  go_wp2_with fail
  refine (HI.out _).mono ?_
  rintro e w1 ⟨rfl, hb⟩
  go_wp2
  go_end0
  exact ⟨rfl, hb⟩
set_option maxRecDepth 100000 in
set_option maxHeartbeats 2000000 in
theorem Order_calls (p : Nat) (S : Nat → Prop) (l : List ByteArray) (hl : l.length < 5000) (w : World) (h : TbO w p S l) :
    Calls Try.prog 20 #[.pointer (some ⟨p, 0, none⟩)] w fun e w' => ∃ v o, e = .returned v ∧ (Kd.int .i64).R 3 w' w.heap.size (fun _ => True) v o ∧ IsOrd l o ∧ Below w.heap.size w w' := by
  obtain ⟨q, n, F, v, h⟩ := h
  obtain ⟨A, c, rfl, hc, hC⟩ := Kd.R_reads h.row
  have q0 := h.c0
  have q1 := h.c1
  have HX := Aside0.mk h
  have HC := Aside0.mk hC
  have hpl := blk_lt h.blk
  have HN := Aside0.mk (fun w' (hb : Below w.heap.size w w') => none_no p q w' ((hb.cell (p := ⟨p, 1, none⟩) hpl).trans q1))
  have HB0 := Aside0.mk ((Below.refl w.heap.size w).alloc (Nat.le_refl _) (.cells #[.pointer (some ⟨p, 0, none⟩)] 25))
  have HT0 := Aside0.mk (blk_new w (.cells #[.pointer (some ⟨p, 0, none⟩)] 25))
  clear h hC
  go_enter Try.func20, Try.ntmps20
  go_wp2_with fail
  refine (HN.out _ HB0.out).mono ?_
  rintro e w1 ⟨rfl, rfl⟩
  go_wp2
  go_loopg [2, 11] (l.length + 1) (fun g v2 v11 wr => ∃ k : Nat, k ≤ l.length ∧ Aside0 (k + g = l.length + 1) ∧ v11 = .int .i64 k ∧ Aside0 (k = 0 → v2 = .slice none 0 0) ∧ Aside0 ((Kd.int .i64).R 3 wr (w.heap.size + 1) (fun _ => True) v2 (iotaL k)) ∧ Aside0 (Below (w.heap.size + 1) (w.alloc (.cells #[.pointer (some ⟨p, 0, none⟩)] 25)) wr))
  case atStart => exact ⟨0, by omega, ⟨by omega⟩, rfl, ⟨fun _ => rfl⟩, ⟨by rw [show iotaL 0 = [] from rfl]; exact Kd.R_nil _ _ _ _ _⟩, ⟨by simpa using Below.refl _ _⟩⟩
  case round =>
    obtain ⟨k, hk, hg, rfl, h0, hR, hB⟩ := hrel
    by_cases c1 : k < l.length
    · have d1 := decide_eq_true (show ((k : Nat) : Int) < (l.length : Int) by omega)
      have HM := Aside0.mk (show ∀ W : World, (Kd.int .i64).M W (w.heap.size + 1) (fun _ => False) (k : Int) [.int .i64 (k : Int)] from fun W => rfl)
      have HL8 := Aside0.mk (show ((iotaL k).length + 1) * 8 ≤ 140737488355328 by rw [iotaL_len]; omega)
      have HSz := Aside0.mk (show w.heap.size + 1 ≤ wr.heap.size by simpa using hB.out.size)
      go_wp2_with ((with_reducible refine gate_builtin (b := .append) (xs := #[.tmp 14, .tmp 16]) rfl ?_); at_builtin; refine Kd.R_append (Kd.int .i64) (w0 := w.alloc (.cells #[.pointer (some ⟨p, 0, none⟩)] 25)) (w.heap.size + 1) rfl (.tmp 14) (.tmp 16) 37 3 (.int .i64 0) 8 rfl Try.underlying37 infoI rfl (by decide) (by decide) u2 (iotaL k) (k : Int) [.int .i64 (k : Int)] (fun _ => True) (fun _ => False) rfl rfl (HM.out _) (fun _ h => h.elim) (fun _ _ => trivial) hR.out hB.out HSz.out HL8.out ?_; intro v4 w4 hR4 hb4 _ _; rw [← iotaL_succ] at hR4; have HR4 := Aside0.mk hR4; have HB4 := Aside0.mk hb4; clear hR4 hb4)
      go_roundg (gk - 1)
      case measure => have := hg.out; omega
      case rel => exact ⟨k + 1, by omega, ⟨by have := hg.out; omega⟩, by go_num, ⟨fun h => by omega⟩, HR4, HB4⟩
    · have ek : k = l.length := by omega
      subst ek
      have d1 := decide_eq_false (show ¬ ((l.length : Nat) : Int) < (l.length : Int) by omega)
      rcases Nat.eq_zero_or_pos l.length with hz | hpos
      · have e0 : (iotaL l.length) = [] := by rw [hz]; rfl
        have hv := h0.out hz
        subst hv
        have HS := Aside0.mk (fun w' => sort_nil 32 #[.pointer (some ⟨w.heap.size, 0, none⟩)] w')
        have HW := Aside0.mk (show Below w.heap.size w wr from HB0.out.trans (hB.out.mono (Nat.le_succ _)))
        have HO := Aside0.mk (show IsOrd l [] from ⟨by rw [e0], List.Pairwise.nil⟩)
        clear hg
        go_wp2_with fail
        refine (HS.out _).mono ?_
        rintro e w5 ⟨rfl, hb⟩
        go_wp2
        go_ret
        exact ⟨_, _, rfl, Kd.R_nil _ _ _ _ _, HO.out, HW.out.trans (hb.mono HW.out.size)⟩
      · obtain ⟨g, co, e2, hg1, hg2⟩ := row_at0 hR.out (by rw [iotaL_len]; omega)
        subst e2
        haveI : Inhabited (Fin l.length) := ⟨⟨0, hpos⟩⟩
        have hsz : (Array.ofFn (id : Fin l.length → Fin l.length)).size = (iotaL l.length).length := by simp [iotaL_len]
        have hS := Try.slices_SortFunc (encF l.length) (fun _ => rfl) (fun x y => cmpN l (x.val : Int) (y.val : Int)) (cb_swo (fun (x : Fin l.length) => (rdOf ByteArray.empty l (x.val : Int)).data.toList) _ (fun _ _ => rfl)) 32 #[.pointer (some ⟨w.heap.size, 0, none⟩)] g 0 co (Array.ofFn id) wr
          (enters_of Try.func32 (by kernel_rfl) rfl)
          (CmpReads.lays (fun m os dk _ x y => by
            have hW : Below (w.heap.size + 1) (w.alloc (.cells #[.pointer (some ⟨p, 0, none⟩)] 25)) (sortWorld (encF l.length) wr g 0 m dk os) := hB.out.trans (below_sort (encF l.length) wr g 0 m dk os hg1 (by have := hB.out.size; simpa using this))
            have hW0 : Below w.heap.size w (sortWorld (encF l.length) wr g 0 m dk os) := HB0.out.trans (hW.mono (Nat.le_succ _))
            exact cmp_calls w.heap.size p l A c (x.val : Int) (y.val : Int) ⟨by omega, by have := x.isLt; omega⟩ ⟨by omega, by have := y.isLt; omega⟩ _
              ((hW.cell (p := ⟨w.heap.size, 0, none⟩) (Nat.lt_succ_self _)).trans ((blk_cell HT0.out 0).trans rfl)) ((hW0.cell (p := ⟨p, 0, none⟩) hpl).trans q0) (Kd.C_below HC.out hW0)))
          (holds_iota hR.out) hg2 (by rw [hsz, iotaL_len]; omega)
        rw [hsz] at hS
        have HS := Aside0.mk hS
        clear hg hS
        go_wp2_with fail
        refine HS.out.mono ?_
        rintro e w5 ⟨rfl, d', m, os, hp1, hs1, rfl⟩
        have hd : d'.size = (iotaL l.length).length := hp1.1.trans hsz
        have HO := Aside0.mk (show IsOrd l (valsF d') from ⟨vals_perm (by rw [hsz]; exact hp1), vals_sorted (cmpN l) (by rw [hd]; exact hs1)⟩)
        have HR := Aside0.mk (Kd.R_lower (row_sorted hR.out (by rw [iotaL_len]; omega) m d' os hd) (Nat.le_succ w.heap.size))
        have HW := Aside0.mk (show Below w.heap.size w (sortWorld (encF l.length) wr g 0 m d' os) from HB0.out.trans ((hB.out.trans (below_sort (encF l.length) wr g 0 m d' os hg1 (by have := hB.out.size; simpa using this))).mono (Nat.le_succ _)))
        clear hp1 hs1
        go_wp2
        go_ret
        exact ⟨_, _, rfl, HR.out, HO.out, HW.out⟩
end Go.Proofs.Ytfnonbbakkcoaaa.P
