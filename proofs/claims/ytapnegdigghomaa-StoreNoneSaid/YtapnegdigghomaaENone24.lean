/- armisticelaw24.StoreNone: a store that is nil, or that nobody made, keeps nothing. -/
import Derived.Test.YtapnegdigghomaaEPuts24
namespace Go.Proofs.Ytapnegdigghomaa.P
open Go.RowKit Go.Proofs.YtapnegdigghomaaW.PrintWords Go.Proofs.YtapnegdigghomaaW.PrintLast Go.Proofs.YtapnegdigghomaaW.PrintMore Go.Maps
set_option linter.unusedVariables false
set_option linter.unusedSimpArgs false
/-- No store: nil, or one that nobody made. -/
def NoSt (w : World) (v : Value) : Prop := v = .pointer none ∨ ∃ p, v = .pointer (some ⟨p, 0, none⟩) ∧ w.cell? ⟨p, 1, none⟩ = some (.int .i64 0)
theorem NoSt.below {w w' : World} {v : Value} (h : NoSt w v) (hb : Below w.heap.size w w') : NoSt w' v := by
  rcases h with h | ⟨p, h, hc⟩
  · exact .inl h
  · exact .inr ⟨p, h, (hb.cell (p := ⟨p, 1, none⟩) (World.block_lt_of_cell? w _ hc)).trans hc⟩
theorem none_yes (w : World) (v : Value) (h : NoSt w v) : Calls Try.prog 33 #[v] w fun e w' => e = .returned (.bool true) ∧ w' = w := by
  rcases h with rfl | ⟨p, rfl, hc⟩
  · exact none_nil w
  · exact none_zero p w hc
theorem Put_none (w : World) (v b : Value) (h : NoSt w v) : Calls Try.prog 20 #[v, b] w fun e w' => e = .returned (.tuple #[.bool false, .int .i64 1]) ∧ w' = w := by
  have HN := Aside0.mk (none_yes w v h)
  clear h
  go_enter Try.func20, Try.ntmps20
  go_wp2_with fail
  refine HN.out.mono ?_
  rintro e w ⟨rfl, rfl⟩
  go_wp2
  go_ret2
  exact ⟨rfl, rfl⟩
theorem Bucket_none (w : World) (v : Value) (i : Int) (h : NoSt w v) : Calls Try.prog 24 #[v, .int .i64 i] w fun e w' => e = .returned (.tuple #[.slice none 0 0, .int .i64 1]) ∧ w' = w := by
  have HN := Aside0.mk (none_yes w v h)
  clear h
  go_enter Try.func24, Try.ntmps24
  go_wp2_with fail
  refine HN.out.mono ?_
  rintro e w ⟨rfl, rfl⟩
  go_wp2
  go_ret2
  exact ⟨rfl, rfl⟩
theorem Len_none (w : World) (v : Value) (h : NoSt w v) : Calls Try.prog 26 #[v] w fun e w' => e = .returned (.int .i64 0) ∧ w' = w := by
  have HN := Aside0.mk (none_yes w v h)
  clear h
  go_enter Try.func26, Try.ntmps26
  go_wp2_with fail
  refine HN.out.mono ?_
  rintro e w ⟨rfl, rfl⟩
  go_wp2
  go_ret
  exact ⟨rfl, rfl⟩
set_option maxHeartbeats 1000000 in
set_option maxRecDepth 100000 in
theorem Has_none (w : World) (v : Value) (A0 : Option Addr) (n c0 : Nat) (h : NoSt w v) : Calls Try.prog 18 #[v, .slice A0 n c0] w fun e w' => e = .returned (.bool false) ∧ Below w.heap.size w w' := by
  have hb := below_alloc (Below.refl w.heap.size w) (.cells #[.slice A0 n c0] 22)
  have HN := Aside0.mk (fun m => none_yes ((w.alloc (.cells #[.slice A0 n c0] 22)).drewN m) v (h.below (pw_below_drewN hb m)))
  have HB := Aside0.mk hb
  clear h hb
  go_enter Try.func18, Try.ntmps18
  go_wp2
  go_quiet ((go_at_call 33; exact Calls.quiet_of_same (HN.out _)))
  go_wp2
  go_ret
  exact ⟨rfl, pw_below_drewN HB.out _⟩
set_option maxHeartbeats 4000000 in
set_option maxRecDepth 100000 in
theorem None_calls (A0 : Option Addr) (n c0 : Nat) (i : Int) (w : World) : Calls Try.prog 5 #[.slice A0 n c0, .int .i64 i] w fun e w' => e = .returned (.bool true) ∧ Below w.heap.size w w' := by
  go_enter Try.func5, Try.ntmps5
  go_wp2
  obtain ⟨W0, hW0⟩ : ∃ W0, (w.alloc (.cells #[.int .i64 0, .int .i64 0, .map none, .int .i64 0] 52)).alloc (.cells #[.pointer none, .pointer (some ⟨w.heap.size, 0, none⟩)] 25) = W0 := ⟨_, rfl⟩
  have hb0 : Below w.heap.size w W0 := by rw [← hW0]; exact ((Below.refl _ w).alloc (Nat.le_refl _) _).alloc (by simp) _
  have hs0 : W0.heap[w.heap.size]? = some (.cells #[.int .i64 0, .int .i64 0, .map none, .int .i64 0] 52 (0, 0)) := by rw [← hW0]; exact blk_below (blk_new w _) (below_alloc (Below.refl _ _) _)
  have hp0 : W0.heap[w.heap.size + 1]? = some (.cells #[.pointer none, .pointer (some ⟨w.heap.size, 0, none⟩)] 25 (0, 0)) := by
    have := blk_new (w.alloc (.cells #[.int .i64 0, .int .i64 0, .map none, .int .i64 0] 52)) (.cells #[.pointer none, .pointer (some ⟨w.heap.size, 0, none⟩)] 25)
    rw [hW0, World.size_alloc] at this
    exact this
  have HB0 := Aside0.mk hb0
  have HS0 := Aside0.mk hs0
  have HP0 := Aside0.mk hp0
  rw [hW0]
  clear hb0 hs0 hp0 hW0
  go_loopg [6] 3 (fun g v6 wr => ∃ k : Nat, k ≤ 2 ∧ Aside0 (k + g = 3) ∧ v6 = .int .i64 k ∧ Aside0 (Below W0.heap.size W0 wr))
  case atStart => exact ⟨0, by omega, ⟨by omega⟩, rfl, ⟨Below.refl _ _⟩⟩
  case round =>
    obtain ⟨k, hk, hg, rfl, hW⟩ := hrel
    have p0 := (blk_cell (blk_below HP0.out hW.out) 0).trans rfl
    have p1 := (blk_cell (blk_below HP0.out hW.out) 1).trans rfl
    match k, hk with
    | 0, _ =>
      have HNo := Aside0.mk (show NoSt wr (.pointer none) from .inl rfl)
      go_wp2_with fail
      refine (Put_none wr _ _ HNo.out).mono ?_
      rintro e wr ⟨rfl, rfl⟩
      go_wp2_with fail
      refine (Bucket_none wr _ i HNo.out).mono ?_
      rintro e wr ⟨rfl, rfl⟩
      go_wp2_with fail
      refine (Has_none wr _ A0 n c0 HNo.out).mono ?_
      rintro e w2 ⟨rfl, hb⟩
      have HN2 := Aside0.mk (HNo.out.below hb)
      have HB2 := Aside0.mk (hW.out.trans (hb.mono hW.out.size))
      clear hb
      go_wp2_with fail
      refine (Len_none w2 _ HN2.out).mono ?_
      rintro e w2 ⟨rfl, rfl⟩
      go_wp2
      go_roundg (gk - 1)
      case measure => have := hg.out; omega
      case rel => exact ⟨1, by omega, ⟨by have := hg.out; omega⟩, rfl, HB2⟩
    | 1, _ =>
      have HNo := Aside0.mk (show NoSt wr (.pointer (some ⟨w.heap.size, 0, none⟩)) from .inr ⟨_, rfl, (blk_cell (blk_below HS0.out hW.out) 1).trans rfl⟩)
      go_wp2_with fail
      refine (Put_none wr _ _ HNo.out).mono ?_
      rintro e wr ⟨rfl, rfl⟩
      go_wp2_with fail
      refine (Bucket_none wr _ i HNo.out).mono ?_
      rintro e wr ⟨rfl, rfl⟩
      go_wp2_with fail
      refine (Has_none wr _ A0 n c0 HNo.out).mono ?_
      rintro e w2 ⟨rfl, hb⟩
      have HN2 := Aside0.mk (HNo.out.below hb)
      have HB2 := Aside0.mk (hW.out.trans (hb.mono hW.out.size))
      clear hb
      go_wp2_with fail
      refine (Len_none w2 _ HN2.out).mono ?_
      rintro e w2 ⟨rfl, rfl⟩
      go_wp2
      go_roundg (gk - 1)
      case measure => have := hg.out; omega
      case rel => exact ⟨2, by omega, ⟨by have := hg.out; omega⟩, rfl, HB2⟩
    | 2, _ =>
      go_wp2_with fail
      refine (awake_calls wr).mono ?_
      rintro e w2 ⟨rfl, hb⟩
      have HB2 := Aside0.mk (hW.out.trans (hb.mono hW.out.size))
      clear hb
      go_wp2
      go_ret
      exact ⟨rfl, HB0.out.trans (HB2.out.mono HB0.out.size)⟩
end Go.Proofs.Ytapnegdigghomaa.P
