/- store.Store: Bucket. -/
import Derived.Test.YtapnegdigghomaaEStorePut
namespace Go.Proofs.Ytapnegdigghomaa.P
open Go.RowKit Go.Proofs.YtapnegdigghomaaW.PrintWords Go.Proofs.YtapnegdigghomaaW.PrintLast Go.Proofs.YtapnegdigghomaaW.PrintMore Go.Maps
set_option linter.unusedVariables false
set_option linter.unusedSimpArgs false
theorem infoR : (Try.prog.info? 22).map (fun i => (i.zero, i.size, i.bytes)) = some (some (.slice none 0 0), 1, 24) := by kernel_rfl
theorem Bucket_no (p : Nat) (sd bk : Int) (S : Nat → Prop) (l : List (List Int)) (w : World) (h : StO w p sd bk S l) (hb0 : 1 ≤ bk) (i : Int) (hi : i < 0 ∨ bk ≤ i) :
    Calls Try.prog 24 #[.pointer (some ⟨p, 0, none⟩), .int .i64 i] w fun e w' => e = .returned (.tuple #[.slice none 0 0, .int .i64 3]) ∧ w' = w := by
  have hbn : bk ≠ 0 := by omega
  obtain ⟨m, h⟩ := h
  have HN := Aside0.mk (none_no p bk w h.c1 hbn)
  have q1 := h.c1
  clear h
  rcases hi with hi | hi
  · have e1 : decide (i < 0) = true := decide_eq_true hi
    go_enter Try.func24, Try.ntmps24
    go_wp2_with fail
    refine HN.out.mono ?_
    rintro e w ⟨rfl, rfl⟩
    go_wp2
    go_ret2
    exact ⟨rfl, rfl⟩
  · have e1 : decide (i < 0) = false := decide_eq_false (by omega)
    have e2 : decide (bk ≤ i) = true := decide_eq_true hi
    go_enter Try.func24, Try.ntmps24
    go_wp2_with fail
    refine HN.out.mono ?_
    rintro e w ⟨rfl, rfl⟩
    go_wp2
    go_ret2
    exact ⟨rfl, rfl⟩
set_option maxHeartbeats 2000000 in
set_option maxRecDepth 100000 in
theorem Bucket_yes (p : Nat) (sd bk : Int) (S : Nat → Prop) (l : List (List Int)) (w : World) (h : StO w p sd bk S l) (hb1 : bk ≤ 65536) (hll : l.length ≤ 1000000) (hx : ∀ x ∈ l, x.length ≤ 1000000) (i : Int) (h0 : 0 ≤ i) (h1 : i < bk) :
    Calls Try.prog 24 #[.pointer (some ⟨p, 0, none⟩), .int .i64 i] w fun e w' => ∃ v, e = .returned (.tuple #[v, .int .i64 0]) ∧ Kd.S kB 22 w' w.heap.size (fun _ => True) v (rowsOf sd bk l i) ∧ Below w.heap.size w w' := by
  have hbn : bk ≠ 0 := by omega
  obtain ⟨m, h⟩ := h
  have HN := Aside0.mk (none_no p bk w h.c1 hbn)
  have q1 := h.c1
  have q2 := h.c2
  have e1 : decide (i < 0) = false := decide_eq_false (by omega)
  have e2 : decide (bk ≤ i) = false := decide_eq_false (by omega)
  obtain ⟨v, hrun, hrow⟩ := h.look i (WalkArith.wf_i64 (by omega))
  have hrl := rows_len sd bk l i
  have hrx : ∀ x ∈ rowsOf sd bk l i, x.length ≤ 1000000 := fun x hx' => hx x (List.mem_filter.1 hx').1
  generalize rowsOf sd bk l i = rs at *
  obtain ⟨A2, c2, rfl, hc2, hC2⟩ := Kd.R_reads hrow
  have HC := Aside0.mk hC2
  have HX := Aside0.mk hrx
  have hlen : rs.length ≤ 1000000 := by omega
  clear h hrow hC2 hrx hrl hx hll hc2
  go_enter Try.func24, Try.ntmps24
  go_wp2_with fail
  refine HN.out.mono ?_
  rintro e w ⟨rfl, rfl⟩
  go_wp2
  go_loopg [4, 29] (rs.length + 1) (fun g v4 v29 wr => ∃ (k : Nat) (vo : Value), k ≤ rs.length ∧ Aside0 (k + g = rs.length + 1) ∧ v29 = .int .i64 k ∧ vo = v4 ∧ Aside0 (Kd.S kB 22 wr w.heap.size (fun _ => True) vo (rs.take k)) ∧ Aside0 (Below w.heap.size w wr))
  case atStart => exact ⟨0, _, by omega, ⟨by omega⟩, rfl, rfl, ⟨Kd.S_nil _ _ _ _ _⟩, ⟨Below.refl _ _⟩⟩
  case round =>
    obtain ⟨k, vo, hk, hg, rfl, rfl, hS, hW⟩ := hrel
    by_cases c1 : k < rs.length
    · obtain ⟨ad, A0, c0, ea, hcell, hcl, hcr⟩ := at_L2 (Kd.C_below HC.out hW.out) (k : Int) (by omega) (by omega)
      cases ea
      simp only [Int.toNat_natCast] at hcell
      have hxk : rd_L2 rs (k : Int) = rs[k] := by simp [rd_L2, List.getD, c1]
      have hxl := HX.out _ (List.getElem_mem c1)
      have ht : rs.take (k + 1) = rs.take k ++ [rs[k]] := List.take_succ_eq_append_getElem c1
      obtain ⟨x, hxx⟩ : ∃ x, Aside0 (rs[k] = x) := ⟨_, ⟨rfl⟩⟩
      rw [hxx.out] at hxk hxl ht
      rw [hxk] at hcell hcl hcr
      have HT := Aside0.mk ht
      have HCl := Aside0.mk (Clone_calls A0 c0 x (wr.alloc (.cells #[.slice A0 x.length c0] 66)) (Kd.C_below hcr (below_alloc (Below.refl _ _) _)) hcl (by omega))
      have HWa := Aside0.mk (below_alloc hW.out (.cells #[.slice A0 x.length c0] 66))
      have HSa := Aside0.mk (Kd.S_alloc hS.out (.cells #[.slice A0 x.length c0] 66))
      have HK := Aside0.mk hk
      have HL := Aside0.mk (show ((rs.take k).length + 1) * 24 ≤ 140737488355328 by rw [List.length_take]; omega)
      clear hxk hcr ht
      go_wp2_with fail
      refine HCl.out.mono ?_
      rintro e w2 ⟨v2, rfl, hR2, hb2⟩
      obtain ⟨A3, c3, rfl⟩ := Kd.R_slice hR2
      have HM := Aside0.mk (show kB.M w2 w.heap.size (fun k => (wr.alloc (.cells #[.slice A0 x.length c0] 66)).heap.size ≤ k) x [.slice A3 x.length c3] from ⟨_, rfl, Kd.R_lower (Kd.R_mono (Kd.R_bound hR2) (fun k hk => hk.2.1)) HWa.out.size⟩)
      have HS2 := Aside0.mk (Kd.S_old HSa.out hb2)
      have HW2 := Aside0.mk (HWa.out.trans (hb2.mono HWa.out.size))
      have HNe := Aside0.mk (fun k (hk : (wr.alloc (.cells #[.slice A0 x.length c0] 66)).heap.size ≤ k) (he : some k = vo.ownBlock) => (absurd (Kd.S_lt HSa.out k he.symm) (by omega) : False))
      clear hR2 hb2 HSa HWa hS HCl
      go_wp2_with (at_builtin; refine Kd.S_append kB (w0 := w) w.heap.size rfl _ _ 36 22 (.slice none 0 0) 24 rfl Try.underlying36 infoR rfl (by decide) (by decide) vo (rs.take k) x [.slice A3 x.length c3] (fun _ => True) (fun k => (wr.alloc (.cells #[.slice A0 x.length c0] 66)).heap.size ≤ k) rfl rfl HM.out (fun k hk => ⟨trivial, fun he => HNe.out k hk he⟩) (fun _ _ => trivial) (Kd.S_mono HS2.out (fun k hk => ⟨trivial, Nat.not_le.2 hk.2⟩)) HW2.out HW2.out.size HL.out ?_; intro v5 w5 hS5 hb5 _ _; rw [← HT.out] at hS5; have HS5 := Aside0.mk hS5; have HW5 := Aside0.mk hb5; clear hS5 hb5)
      go_roundg (gk - 1)
      case measure => have := hg.out; omega
      case rel => exact ⟨k + 1, _, by have := HK.out; omega, ⟨by have := hg.out; omega⟩, by go_num, rfl, HS5, HW5⟩
    · have ek : rs.take k = rs := List.take_of_length_le (by omega)
      have hS2 := hS.out
      rw [ek] at hS2
      have HS2 := Aside0.mk hS2
      clear ek hS2 hS
      go_wp2
      go_ret2
      exact ⟨_, rfl, HS2.out, hW.out⟩
end Go.Proofs.Ytapnegdigghomaa.P
