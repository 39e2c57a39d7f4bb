/- armisticekit.SameEvents of two lists that are the same. -/
import Derived.Test.YtkjnbfjbdlcehaaGreatDoorPx2
import Derived.Test.YtkjnbfjbdlcehaaGreatDoorKH
namespace Go.Proofs.YtkjnbfjbdlcehaaGreatDoor.P
open Go.RowKit Go.Proofs.YtkjnbfjbdlcehaaGreatDoorW.PrintWords Go.Proofs.YtkjnbfjbdlcehaaGreatDoorW.PrintLast Go.Proofs.YtkjnbfjbdlcehaaGreatDoorW.PrintMore
set_option linter.unusedVariables false
set_option linter.unusedSimpArgs false
theorem sameInts_same (a : List Int) (hl : a.length ≤ 140737488355328) : ∀ (m j : Nat), j + m = a.length → armisticekit_SameInts.l0 (m + 1) a a (j : Int) = some true
  | 0, j, hj => by rw [armisticekit_SameInts.l0, if_neg (by omega)]
  | m + 1, j, hj => by
    have e1 : wrap64 ((j : Int) + 1) = ((j + 1 : Nat) : Int) := by unfold wrap64; omega
    rw [armisticekit_SameInts.l0, if_pos (by omega), if_pos (by omega), if_pos (by omega), if_pos rfl, e1]
    exact sameInts_same a hl m (j + 1) (by omega)
theorem sameInts_self (a : List Int) (hl : a.length ≤ 140737488355328) : armisticekit_SameInts.f (a.length + 1) a a = some true := by
  unfold armisticekit_SameInts.f
  rw [if_pos rfl]
  exact sameInts_same a hl a.length 0 (by omega)
set_option maxHeartbeats 1000000 in
set_option maxRecDepth 100000 in
theorem sameState_same (t n : Int) (A0 : Option Addr) (c0 : Nat) (A1 : Option Addr) (c1 : Nat) (l : List Int) (w : World) (h0 : Kd.C (Kd.int .i64) w A0 l.length l) (hc0 : l.length ≤ c0) (h1 : Kd.C (Kd.int .i64) w A1 l.length l) (hc1 : l.length ≤ c1) (hl : l.length ≤ 140737488355328) :
    Calls Tryz.prog 72 #[.agg #[.int .i64 t, .int .i64 n, .slice A0 l.length c0], .agg #[.int .i64 t, .int .i64 n, .slice A1 l.length c1]] w fun e w' => e = .returned (.bool true) ∧ Below w.heap.size w w' := by
  have HF := Aside0.mk (fun w' (hb : Below w.heap.size w w') => armisticekit_SameInts.calls (l.length + 1) A0 c0 l A1 c1 l true w' (Kd.C_below h0 hb) hc0 (Kd.C_below h1 hb) hc1 (sameInts_self l hl))
  obtain ⟨m, hm⟩ : ∃ m, l.length = m := ⟨_, rfl⟩
  rw [hm] at HF ⊢
  clear h0 hc0 h1 hc1 hl hm
  go_enter Tryz.func72, Tryz.ntmps72
  go_upto_region 1 with (fail)
  have ha := blk_new w (.cells #[.int .i64 t, .int .i64 n, .slice A0 m c0] 36)
  have hb := below_alloc (Below.refl w.heap.size w) (.cells #[.int .i64 t, .int .i64 n, .slice A0 m c0] 36)
  obtain ⟨w1, hw1⟩ : ∃ w1 : World, w.alloc (.cells #[.int .i64 t, .int .i64 n, .slice A0 m c0] 36) = w1 := ⟨_, rfl⟩
  rw [hw1] at ha hb ⊢
  have hz : w1.heap.size = w.heap.size + 1 := by rw [← hw1]; exact Array.size_push _
  have ha2 := blk_alloc ha (.cells #[.int .i64 t, .int .i64 n, .slice A1 m c1] 36)
  have hb2 := Aside0.mk (below_alloc hb (.cells #[.int .i64 t, .int .i64 n, .slice A1 m c1] 36))
  have hd2 := blk_new w1 (.cells #[.int .i64 t, .int .i64 n, .slice A1 m c1] 36)
  obtain ⟨w2, hw2⟩ : ∃ w2 : World, w1.alloc (.cells #[.int .i64 t, .int .i64 n, .slice A1 m c1] 36) = w2 := ⟨_, rfl⟩
  rw [hw2] at ha2 hb2 hd2 ⊢
  rw [hz] at hd2
  have f0 := (blk_cell ha2 0).trans rfl
  have f1 := (blk_cell ha2 1).trans rfl
  have f2 := (blk_cell ha2 2).trans rfl
  have g0 := (blk_cell hd2 0).trans rfl
  have g1 := (blk_cell hd2 1).trans rfl
  have g2 := (blk_cell hd2 2).trans rfl
  clear ha hb hw1 hw2 ha2 hd2
  go_wp2_with fail
  refine (HF.out w2 hb2.out).mono ?_
  rintro e w3 ⟨rfl, hd⟩
  go_wp2
  go_ret
  exact ⟨rfl, hb2.out.trans (hd.below.mono hb2.out.size)⟩
set_option maxHeartbeats 1000000 in
set_option maxRecDepth 100000 in
theorem sameEvent_same (x0 : Int) (x1 x2 : ByteArray) (x3 x4 x5 x6 x7 x8 x9 : Int) (A0 : Option Addr) (c0 : Nat) (A1 : Option Addr) (c1 : Nat) (l : List Int) (w : World) (h0 : Kd.C (Kd.int .i64) w A0 l.length l) (hc0 : l.length ≤ c0) (h1 : Kd.C (Kd.int .i64) w A1 l.length l) (hc1 : l.length ≤ c1) (hl : l.length ≤ 140737488355328) :
    Calls Tryz.prog 48 #[.agg #[.int .i64 x0, .string x1, .string x2, .int .i64 x3, .int .i64 x4, .int .i64 x5, .int .i64 x6, .int .i64 x7, .int .i64 x8, .int .i64 x9, .slice A0 l.length c0], .agg #[.int .i64 x0, .string x1, .string x2, .int .i64 x3, .int .i64 x4, .int .i64 x5, .int .i64 x6, .int .i64 x7, .int .i64 x8, .int .i64 x9, .slice A1 l.length c1]] w fun e w' => e = .returned (.bool true) ∧ Below w.heap.size w w' := by
  have HF := Aside0.mk (fun w' (hb : Below w.heap.size w w') => sameState_same x8 x9 A0 c0 A1 c1 l w' (Kd.C_below h0 hb) hc0 (Kd.C_below h1 hb) hc1 hl)
  obtain ⟨m, hm⟩ : ∃ m, l.length = m := ⟨_, rfl⟩
  rw [hm] at HF ⊢
  clear h0 hc0 h1 hc1 hl hm
  go_enter Tryz.func48, Tryz.ntmps48
  go_upto_region 1 with (fail)
  have ha := blk_new w (.cells #[.int .i64 x0, .string x1, .string x2, .int .i64 x3, .int .i64 x4, .int .i64 x5, .int .i64 x6, .int .i64 x7, .int .i64 x8, .int .i64 x9, .slice A0 m c0] 38)
  have hb := below_alloc (Below.refl w.heap.size w) (.cells #[.int .i64 x0, .string x1, .string x2, .int .i64 x3, .int .i64 x4, .int .i64 x5, .int .i64 x6, .int .i64 x7, .int .i64 x8, .int .i64 x9, .slice A0 m c0] 38)
  obtain ⟨w1, hw1⟩ : ∃ w1 : World, w.alloc (.cells #[.int .i64 x0, .string x1, .string x2, .int .i64 x3, .int .i64 x4, .int .i64 x5, .int .i64 x6, .int .i64 x7, .int .i64 x8, .int .i64 x9, .slice A0 m c0] 38) = w1 := ⟨_, rfl⟩
  rw [hw1] at ha hb ⊢
  have hz : w1.heap.size = w.heap.size + 1 := by rw [← hw1]; exact Array.size_push _
  have ha2 := blk_alloc ha (.cells #[.int .i64 x0, .string x1, .string x2, .int .i64 x3, .int .i64 x4, .int .i64 x5, .int .i64 x6, .int .i64 x7, .int .i64 x8, .int .i64 x9, .slice A1 m c1] 38)
  have hb2 := Aside0.mk (below_alloc hb (.cells #[.int .i64 x0, .string x1, .string x2, .int .i64 x3, .int .i64 x4, .int .i64 x5, .int .i64 x6, .int .i64 x7, .int .i64 x8, .int .i64 x9, .slice A1 m c1] 38))
  have hd2 := blk_new w1 (.cells #[.int .i64 x0, .string x1, .string x2, .int .i64 x3, .int .i64 x4, .int .i64 x5, .int .i64 x6, .int .i64 x7, .int .i64 x8, .int .i64 x9, .slice A1 m c1] 38)
  obtain ⟨w2, hw2⟩ : ∃ w2 : World, w1.alloc (.cells #[.int .i64 x0, .string x1, .string x2, .int .i64 x3, .int .i64 x4, .int .i64 x5, .int .i64 x6, .int .i64 x7, .int .i64 x8, .int .i64 x9, .slice A1 m c1] 38) = w2 := ⟨_, rfl⟩
  rw [hw2] at ha2 hb2 hd2 ⊢
  rw [hz] at hd2
  have f0 := (blk_cell ha2 0).trans rfl
  have g0 := (blk_cell hd2 0).trans rfl
  have f1 := (blk_cell ha2 1).trans rfl
  have g1 := (blk_cell hd2 1).trans rfl
  have f2 := (blk_cell ha2 2).trans rfl
  have g2 := (blk_cell hd2 2).trans rfl
  have f3 := (blk_cell ha2 3).trans rfl
  have g3 := (blk_cell hd2 3).trans rfl
  have f4 := (blk_cell ha2 4).trans rfl
  have g4 := (blk_cell hd2 4).trans rfl
  have f5 := (blk_cell ha2 5).trans rfl
  have g5 := (blk_cell hd2 5).trans rfl
  have f6 := (blk_cell ha2 6).trans rfl
  have g6 := (blk_cell hd2 6).trans rfl
  have f7 := (blk_cell ha2 7).trans rfl
  have g7 := (blk_cell hd2 7).trans rfl
  have f8 := (blk_cell ha2 8).trans rfl
  have g8 := (blk_cell hd2 8).trans rfl
  have f9 := (blk_cell ha2 9).trans rfl
  have g9 := (blk_cell hd2 9).trans rfl
  have f10 := (blk_cell ha2 10).trans rfl
  have g10 := (blk_cell hd2 10).trans rfl
  clear ha hb hw1 hw2 ha2 hd2 hz
  go_wp2_with fail
  refine (HF.out w2 hb2.out).mono ?_
  rintro e w3 ⟨rfl, hd⟩
  go_wp2
  go_ret
  exact ⟨rfl, hb2.out.trans (hd.mono hb2.out.size)⟩
/-- Lists that are the same. -/
def eqEvents (a b : List S38) : Bool := a.length == b.length && (a.zip b).all fun p => p.1.f0 == p.2.f0 && (p.1.f1.data.toList == p.2.f1.data.toList && (p.1.f2.data.toList == p.2.f2.data.toList && (p.1.f3.f0 == p.2.f3.f0 && (p.1.f3.f1 == p.2.f3.f1 && (p.1.f3.f2 == p.2.f3.f2 && (p.1.f3.f3.f0 == p.2.f3.f3.f0 && (p.1.f3.f3.f1 == p.2.f3.f3.f1 && (p.1.f4.f0 == p.2.f4.f0 && (p.1.f4.f1 == p.2.f4.f1 && p.1.f4.f2 == p.2.f4.f2)))))))))
theorem same_ba {a b : ByteArray} (h : a.data.toList = b.data.toList) : a = b := by
  cases a
  cases b
  exact congrArg _ (Array.toList_inj.1 h)
theorem eqEvents_eq : ∀ {a b : List S38}, eqEvents a b = true → a = b
  | [], [], _ => rfl
  | [], _ :: _, h => by simp [eqEvents] at h
  | _ :: _, [], h => by simp [eqEvents] at h
  | x :: a, y :: b, h => by
    simp only [eqEvents, List.length_cons, List.zip_cons_cons, List.all_cons, Bool.and_eq_true, beq_iff_eq, Nat.add_right_cancel_iff] at h
    obtain ⟨h1, ⟨e0, e1, e2, e3, e4, e5, e6, e7, e8, e9, e10⟩, h3⟩ := h
    have ih : a = b := eqEvents_eq (by simp only [eqEvents, Bool.and_eq_true, beq_iff_eq]; exact ⟨h1, by simpa using h3⟩)
    obtain ⟨a0, a1, a2, ⟨a3, a4, a5, ⟨a6, a7⟩⟩, ⟨a8, a9, a10⟩⟩ := x
    obtain ⟨b0, b1, b2, ⟨b3, b4, b5, ⟨b6, b7⟩⟩, ⟨b8, b9, b10⟩⟩ := y
    simp only at e0 e1 e2 e3 e4 e5 e6 e7 e8 e9 e10
    replace e1 := same_ba e1
    replace e2 := same_ba e2
    rw [ih, e0, e1, e2, e3, e4, e5, e6, e7, e8, e9, e10]
theorem eqEvents_refl : ∀ a : List S38, eqEvents a a = true
  | [] => rfl
  | x :: a => by
    have ih := eqEvents_refl a
    simp only [eqEvents, Bool.and_eq_true, beq_self_eq_true, true_and] at ih
    simp only [eqEvents, List.zip_cons_cons, List.all_cons, beq_self_eq_true, Bool.true_and]
    exact ih
def armisticekit_SameEvents.f (a b : List S38) : Option Bool := if (decide (a.length ≤ 140737488355328) && (a.all (fun x => decide (x.f4.f2.length ≤ 140737488355328)) && eqEvents a b)) = true then some true else none
set_option maxHeartbeats 1000000 in
set_option maxRecDepth 100000 in
theorem armisticekit_SameEvents.calls (A0 : Option Addr) (c0 : Nat) (l0 : List S38) (A1 : Option Addr) (c1 : Nat) (l1 : List S38) (r : Bool) (w : World) (hr0 : Kd.C k38 w A0 l0.length l0) (hc0 : l0.length ≤ c0) (hr1 : Kd.C k38 w A1 l1.length l1) (hc1 : l1.length ≤ c1) (h : armisticekit_SameEvents.f l0 l1 = some r) :
    Calls Tryz.prog 19 #[.slice A0 l0.length c0, .slice A1 l1.length c1] w fun e w' => e = .returned (.bool r) ∧ Below w.heap.size w w' := by
  unfold armisticekit_SameEvents.f at h
  split at h
  · rename_i hc
    obtain rfl := Option.some.inj h
    simp only [Bool.and_eq_true, decide_eq_true_eq, List.all_eq_true] at hc
    obtain ⟨hl, hx, he⟩ := hc
    obtain rfl := eqEvents_eq he
    have H0 := Aside0.mk hr0
    have H1 := Aside0.mk hr1
    have HX := Aside0.mk hx
    obtain ⟨n, hn⟩ : ∃ n, l0.length = n := ⟨_, rfl⟩
    have HN := Aside0.mk hn
    rw [hn] at H0 H1 hl ⊢
    clear hr0 hr1 hc0 hc1 h he hx hn
    go_enter Tryz.func19, Tryz.ntmps19
    go_wp2
    go_loopg [5] (n + 1) (fun g v5 wr => ∃ k : Nat, k ≤ n ∧ Aside0 (k + g = n + 1) ∧ v5 = .int .i64 k ∧ Aside0 (Below w.heap.size w wr))
    case atStart => exact ⟨0, by omega, ⟨by omega⟩, rfl, ⟨by repeat (first | exact Below.refl _ _ | apply below_drew1 | apply pw_below_drewN)⟩⟩
    case round =>
      obtain ⟨k, hk, hg, rfl, hB⟩ := hrel
      by_cases hkl : k < n
      · obtain ⟨ad, Ae, ce, rfl, he⟩ := at_T38 (Kd.C_below H0.out hB.out) (k : Int) (by omega) (by omega)
        obtain ⟨bd, Be, de, rfl, hf⟩ := at_T38 (Kd.C_below H1.out hB.out) (k : Int) (by omega) (by omega)
        have hxk := HX.out (rd_T38 l0 (k : Int)) (by
          have hk2 : k < l0.length := by rw [HN.out]; exact hkl
          simp [rd_T38, List.getD, hk2])
        obtain ⟨ev, hev⟩ : ∃ ev, rd_T38 l0 (k : Int) = ev := ⟨_, rfl⟩
        rw [hev] at he hf hxk
        simp only [Int.toNat_natCast] at he hf
        obtain ⟨e0, e1, e2, e3, e4, e5, e6, e7, e8, e9, e10, he1, he2⟩ := he
        obtain ⟨d0, d1, d2, d3, d4, d5, d6, d7, d8, d9, d10, hf1, hf2⟩ := hf
        have HC := Aside0.mk (fun w' (hb : Below wr.heap.size wr w') => sameEvent_same ev.f0 ev.f1 ev.f2 ev.f3.f0 ev.f3.f1 ev.f3.f2 ev.f3.f3.f0 ev.f3.f3.f1 ev.f4.f0 ev.f4.f1 Ae ce Be de ev.f4.f2 w' (Kd.C_below he2 hb) he1 (Kd.C_below hf2 hb) hf1 hxk)
        have b0 := decide_eq_true (show ((k : Nat) : Int) < (n : Int) by omega)
        have b1 : (0 : Int) ≤ (k : Int) := by omega
        have b2 : (k : Int) < (n : Int) := by omega
        have HE := Aside0.mk (And.intro e0 (And.intro e1 (And.intro e2 (And.intro e3 (And.intro e4 (And.intro e5 (And.intro e6 (And.intro e7 (And.intro e8 (And.intro e9 e10))))))))))
        have HD := Aside0.mk (And.intro d0 (And.intro d1 (And.intro d2 (And.intro d3 (And.intro d4 (And.intro d5 (And.intro d6 (And.intro d7 (And.intro d8 (And.intro d9 d10))))))))))
        have hl0 := World.block_lt_of_cell? _ _ e0
        have hl1 := World.block_lt_of_cell? _ _ d0
        clear e0 e1 e2 e3 e4 e5 e6 e7 e8 e9 e10 d0 d1 d2 d3 d4 d5 d6 d7 d8 d9 d10 he1 he2 hf1 hf2 hev hxk
        go_wp2_with fail
        refine wp_onlyQ fun K hK => ?_
        refine wp_region_held_drew (S := (fun w' => Below wr.heap.size wr w')) (by kernel_rfl) ?_ (fun hHeld => ?_)
        · exact (Below.refl _ _).drew
        refine wpAnyH_take (i := 0) (v := .slice (some ad) n c0) rfl (by kernel_rfl) (by kernel_rfl) (by kernel_rfl) (fun _ _ _ h => h) (Or.inl ⟨by rfl, fun w' hSw => ?_⟩) (by assumption) ?_
        · go_simp
        simp only [Act.put, List.getElem_toArray, List.getElem_cons_zero, List.getElem_cons_succ, List.setIfInBounds_toArray, List.set_cons_zero, List.set_cons_succ]
        refine wpAnyH_take (i := 1) (v := .int .i64 (k : Int)) rfl (by kernel_rfl) (by kernel_rfl) (by kernel_rfl) (fun _ _ _ h => h) (Or.inl ⟨by rfl, fun w' hSw => ?_⟩) (by assumption) ?_
        · go_simp
        simp only [Act.put, List.getElem_toArray, List.getElem_cons_zero, List.getElem_cons_succ, List.setIfInBounds_toArray, List.set_cons_zero, List.set_cons_succ]
        refine wpAnyH_take (i := 2) (v := .pointer (some (ad.add (k * 11)))) rfl (by kernel_rfl) (by kernel_rfl) (by kernel_rfl) (fun _ _ _ h => h) (Or.inl ⟨by rfl, fun w' hSw => ?_⟩) (by assumption) ?_
        · go_simp
        simp only [Act.put, List.getElem_toArray, List.getElem_cons_zero, List.getElem_cons_succ, List.setIfInBounds_toArray, List.set_cons_zero, List.set_cons_succ]
        refine wpAnyH_take (i := 3) (v := .agg #[.int .i64 ev.f0, .string ev.f1, .string ev.f2, .int .i64 ev.f3.f0, .int .i64 ev.f3.f1, .int .i64 ev.f3.f2, .int .i64 ev.f3.f3.f0, .int .i64 ev.f3.f3.f1, .int .i64 ev.f4.f0, .int .i64 ev.f4.f1, .slice Ae ev.f4.f2.length ce]) rfl (by kernel_rfl) (by kernel_rfl) (by kernel_rfl) (fun _ _ _ h => h) (Or.inl ⟨by rfl, fun w' hSw => ?_⟩) (by assumption) ?_
        · (obtain ⟨e0, e1, e2, e3, e4, e5, e6, e7, e8, e9, e10⟩ := HE.out; replace e0 := (hSw.cell (p := _) hl0).trans e0; replace e1 := (hSw.cell (p := ⟨(ad.add (k * 11)).block, (ad.add (k * 11)).off + 1, none⟩) hl0).trans e1; replace e2 := (hSw.cell (p := ⟨(ad.add (k * 11)).block, (ad.add (k * 11)).off + 2, none⟩) hl0).trans e2; replace e3 := (hSw.cell (p := ⟨(ad.add (k * 11)).block, (ad.add (k * 11)).off + 3, none⟩) hl0).trans e3; replace e4 := (hSw.cell (p := ⟨(ad.add (k * 11)).block, (ad.add (k * 11)).off + 4, none⟩) hl0).trans e4; replace e5 := (hSw.cell (p := ⟨(ad.add (k * 11)).block, (ad.add (k * 11)).off + 5, none⟩) hl0).trans e5; replace e6 := (hSw.cell (p := ⟨(ad.add (k * 11)).block, (ad.add (k * 11)).off + 6, none⟩) hl0).trans e6; replace e7 := (hSw.cell (p := ⟨(ad.add (k * 11)).block, (ad.add (k * 11)).off + 7, none⟩) hl0).trans e7; replace e8 := (hSw.cell (p := ⟨(ad.add (k * 11)).block, (ad.add (k * 11)).off + 8, none⟩) hl0).trans e8; replace e9 := (hSw.cell (p := ⟨(ad.add (k * 11)).block, (ad.add (k * 11)).off + 9, none⟩) hl0).trans e9; replace e10 := (hSw.cell (p := ⟨(ad.add (k * 11)).block, (ad.add (k * 11)).off + 10, none⟩) hl0).trans e10; go_simp)
        simp only [Act.put, List.getElem_toArray, List.getElem_cons_zero, List.getElem_cons_succ, List.setIfInBounds_toArray, List.set_cons_zero, List.set_cons_succ]
        refine wpAnyH_take (i := 4) (v := .slice (some bd) n c1) rfl (by kernel_rfl) (by kernel_rfl) (by kernel_rfl) (fun _ _ _ h => h) (Or.inl ⟨by rfl, fun w' hSw => ?_⟩) (by assumption) ?_
        · go_simp
        simp only [Act.put, List.getElem_toArray, List.getElem_cons_zero, List.getElem_cons_succ, List.setIfInBounds_toArray, List.set_cons_zero, List.set_cons_succ]
        refine wpAnyH_take (i := 5) (v := .int .i64 (k : Int)) rfl (by kernel_rfl) (by kernel_rfl) (by kernel_rfl) (fun _ _ _ h => h) (Or.inl ⟨by rfl, fun w' hSw => ?_⟩) (by assumption) ?_
        · go_simp
        simp only [Act.put, List.getElem_toArray, List.getElem_cons_zero, List.getElem_cons_succ, List.setIfInBounds_toArray, List.set_cons_zero, List.set_cons_succ]
        refine wpAnyH_take (i := 6) (v := .pointer (some (bd.add (k * 11)))) rfl (by kernel_rfl) (by kernel_rfl) (by kernel_rfl) (fun _ _ _ h => h) (Or.inl ⟨by rfl, fun w' hSw => ?_⟩) (by assumption) ?_
        · go_simp
        simp only [Act.put, List.getElem_toArray, List.getElem_cons_zero, List.getElem_cons_succ, List.setIfInBounds_toArray, List.set_cons_zero, List.set_cons_succ]
        refine wpAnyH_take (i := 7) (v := .agg #[.int .i64 ev.f0, .string ev.f1, .string ev.f2, .int .i64 ev.f3.f0, .int .i64 ev.f3.f1, .int .i64 ev.f3.f2, .int .i64 ev.f3.f3.f0, .int .i64 ev.f3.f3.f1, .int .i64 ev.f4.f0, .int .i64 ev.f4.f1, .slice Be ev.f4.f2.length de]) rfl (by kernel_rfl) (by kernel_rfl) (by kernel_rfl) (fun _ _ _ h => h) (Or.inl ⟨by rfl, fun w' hSw => ?_⟩) (by assumption) ?_
        · (obtain ⟨d0, d1, d2, d3, d4, d5, d6, d7, d8, d9, d10⟩ := HD.out; replace d0 := (hSw.cell (p := _) hl1).trans d0; replace d1 := (hSw.cell (p := ⟨(bd.add (k * 11)).block, (bd.add (k * 11)).off + 1, none⟩) hl1).trans d1; replace d2 := (hSw.cell (p := ⟨(bd.add (k * 11)).block, (bd.add (k * 11)).off + 2, none⟩) hl1).trans d2; replace d3 := (hSw.cell (p := ⟨(bd.add (k * 11)).block, (bd.add (k * 11)).off + 3, none⟩) hl1).trans d3; replace d4 := (hSw.cell (p := ⟨(bd.add (k * 11)).block, (bd.add (k * 11)).off + 4, none⟩) hl1).trans d4; replace d5 := (hSw.cell (p := ⟨(bd.add (k * 11)).block, (bd.add (k * 11)).off + 5, none⟩) hl1).trans d5; replace d6 := (hSw.cell (p := ⟨(bd.add (k * 11)).block, (bd.add (k * 11)).off + 6, none⟩) hl1).trans d6; replace d7 := (hSw.cell (p := ⟨(bd.add (k * 11)).block, (bd.add (k * 11)).off + 7, none⟩) hl1).trans d7; replace d8 := (hSw.cell (p := ⟨(bd.add (k * 11)).block, (bd.add (k * 11)).off + 8, none⟩) hl1).trans d8; replace d9 := (hSw.cell (p := ⟨(bd.add (k * 11)).block, (bd.add (k * 11)).off + 9, none⟩) hl1).trans d9; replace d10 := (hSw.cell (p := ⟨(bd.add (k * 11)).block, (bd.add (k * 11)).off + 10, none⟩) hl1).trans d10; go_simp)
        simp only [Act.put, List.getElem_toArray, List.getElem_cons_zero, List.getElem_cons_succ, List.setIfInBounds_toArray, List.set_cons_zero, List.set_cons_succ]
        refine wpAnyH_ready (rs := [8]) (by kernel_rfl) (by simp) ?_
        refine AllReadyH.cons (o := _) rfl (fun K1 hK1 => ?_) AllReadyH.nil
        rw [if_pos (by rfl)]; go_wp2_with fail; refine (HC.out _ hHeld).mono ?_; rintro e w2 ⟨rfl, hb⟩; go_wp2_with fail
        refine hK1.out _ _ ?_ (fun hHeld => ?_)
        · exact hHeld.trans (hb.mono hHeld.size)
        clear hK1 K1
        try simp only [Act.put, List.getElem_toArray, List.getElem_cons_zero, List.getElem_cons_succ, List.setIfInBounds_toArray, List.set_cons_zero, List.set_cons_succ]
        refine wpAnyH_take (i := 9) (v := .bool false) rfl (by kernel_rfl) (by kernel_rfl) (by kernel_rfl) (fun _ _ _ h => h) (Or.inl ⟨by rfl, fun w' hSw => ?_⟩) (by assumption) ?_
        · go_simp
        simp only [Act.put, List.getElem_toArray, List.getElem_cons_zero, List.getElem_cons_succ, List.setIfInBounds_toArray, List.set_cons_zero, List.set_cons_succ]
        refine wpAnyH_done (by kernel_rfl) ?_ _
        show K _ _
        refine hK _ _ ?_
        clear hK K
        go_wp2
        go_roundg (gk - 1)
        case measure => have := hg.out; omega
        case rel => exact ⟨k + 1, by omega, ⟨by have := hg.out; omega⟩, by go_num, ⟨hB.out.trans (hHeld.mono hB.out.size)⟩⟩
      · have b0 := decide_eq_false (show ¬ ((k : Nat) : Int) < (n : Int) by omega)
        go_wp2
        go_ret
        exact ⟨rfl, hB.out⟩
  · cases h
end Go.Proofs.YtkjnbfjbdlcehaaGreatDoor.P
