/- armisticelaw02.awake: some of the chapter's examples. -/
import Derived.Test.YthhdjbpmkfnhjaaDoorEFails
import Derived.Test.YthhdjbpmkfnhjaaDoorEJoin2
import Derived.Test.YthhdjbpmkfnhjaaDoorPx3
import Derived.Test.YthhdjbpmkfnhjaaDoorPx6
import Derived.Lib.SlBytesConst
namespace Go.Proofs.YthhdjbpmkfnhjaaDoor.P
open Go.RowKit Go.Proofs.YthhdjbpmkfnhjaaDoorW.PrintWords Go.Proofs.YthhdjbpmkfnhjaaDoorW.PrintLast Go.Proofs.YthhdjbpmkfnhjaaDoorW.PrintMore
set_option linter.unusedVariables false
set_option linter.unusedSimpArgs false
def armisticelaw02_awake.f : Option Bool := some true
def awText : List Int := [97, 98, 32, 99, 10, 10, 35, 32, 120, 10, 100]
def awW1 : List S36 := [⟨⟨#[97, 98]⟩, 0⟩, ⟨⟨#[99]⟩, 3⟩]
def awW2 : List S36 := [⟨⟨#[100]⟩, 10⟩]
def awL : List S34 := [⟨0, awW1⟩, ⟨10, awW2⟩]
theorem two_cases {α : Type} {P : Nat → α → Prop} {a b : α} (h0 : P 0 a) (h1 : P 1 b) : ∀ (j : Nat) (x : α), [a, b][j]? = some x → P j x := by
  intro j x h
  match j with
  | 0 => cases h; exact h0
  | 1 => cases h; exact h1
  | j + 2 => simp at h
/-- The example's lines, as they are laid. -/
theorem awWant (W0 W : World) (n : Nat) (hn : W0.heap.size = n) (hW : W = ((W0.alloc (.cells #[.string ⟨#[97, 98]⟩, .int .i64 0, .string ⟨#[99]⟩, .int .i64 3] 36)).alloc (.cells #[.string ⟨#[100]⟩, .int .i64 10] 36)).alloc (.cells #[.int .i64 0, .slice (some ⟨n, 0, none⟩) 2 2, .int .i64 10, .slice (some ⟨n + 1, 0, none⟩) 1 1] 34)) :
    Kd.C k34 W (some ⟨n + 1 + 1, 0, none⟩) awL.length awL := by
  subst hn
  have e1 : W.heap[W0.heap.size]? = some (.cells #[.string ⟨#[97, 98]⟩, .int .i64 0, .string ⟨#[99]⟩, .int .i64 3] 36) := by
    rw [hW]
    exact blk_below (blk_new W0 _) (((Below.refl _ _).alloc (Nat.le_refl _) _).alloc (by simp) _)
  have e2 : W.heap[W0.heap.size + 1]? = some (.cells #[.string ⟨#[100]⟩, .int .i64 10] 36) := by
    rw [hW]
    have := blk_new (W0.alloc (.cells #[.string ⟨#[97, 98]⟩, .int .i64 0, .string ⟨#[99]⟩, .int .i64 3] 36)) (.cells #[.string ⟨#[100]⟩, .int .i64 10] 36)
    rw [World.size_alloc] at this
    exact blk_below this ((Below.refl _ _).alloc (Nat.le_refl _) _)
  have e3 : W.heap[W0.heap.size + 1 + 1]? = some (.cells #[.int .i64 0, .slice (some ⟨W0.heap.size, 0, none⟩) 2 2, .int .i64 10, .slice (some ⟨W0.heap.size + 1, 0, none⟩) 1 1] 34) := by
    rw [hW]
    have := blk_new ((W0.alloc (.cells #[.string ⟨#[97, 98]⟩, .int .i64 0, .string ⟨#[99]⟩, .int .i64 3] 36)).alloc (.cells #[.string ⟨#[100]⟩, .int .i64 10] 36)) (.cells #[.int .i64 0, .slice (some ⟨W0.heap.size, 0, none⟩) 2 2, .int .i64 10, .slice (some ⟨W0.heap.size + 1, 0, none⟩) 1 1] 34)
    rw [World.size_alloc, World.size_alloc] at this
    exact this
  have c1 : Kd.C k36 W (some ⟨W0.heap.size, 0, none⟩) awW1.length awW1 := rowC _ W _ _ (0, 0) awW1 [[.string ⟨#[97, 98]⟩, .int .i64 0], [.string ⟨#[99]⟩, .int .i64 3]] e1 rfl (by decide) (fun j x c hx hc => by
    match j with
    | 0 => cases hx; cases hc; exact k36_mk W ⟨⟨#[97, 98]⟩, 0⟩
    | 1 => cases hx; cases hc; exact k36_mk W ⟨⟨#[99]⟩, 3⟩
    | j + 2 => simp [awW1] at hx)
  have c2 : Kd.C k36 W (some ⟨W0.heap.size + 1, 0, none⟩) awW2.length awW2 := rowC _ W _ _ (0, 0) awW2 [[.string ⟨#[100]⟩, .int .i64 10]] e2 rfl (by decide) (fun j x c hx hc => by
    match j with
    | 0 => cases hx; cases hc; exact k36_mk W ⟨⟨#[100]⟩, 10⟩
    | j + 1 => simp [awW2] at hx)
  exact rowC _ W _ _ (0, 0) awL [[.int .i64 0, .slice (some ⟨W0.heap.size, 0, none⟩) 2 2], [.int .i64 10, .slice (some ⟨W0.heap.size + 1, 0, none⟩) 1 1]] e3 rfl (by decide) (fun j x c hx hc => by
    match j with
    | 0 => cases hx; cases hc; exact k34_mk W ⟨0, awW1⟩ (by decide) c1
    | 1 => cases hx; cases hc; exact k34_mk W ⟨10, awW2⟩ (by decide) c2
    | j + 2 => simp [awL] at hx)
set_option maxHeartbeats 1000000 in
set_option maxRecDepth 100000 in
theorem armisticelaw02_awake.calls (r : Bool) (w : World) (h : armisticelaw02_awake.f = some r) :
    Calls Tryd.prog 9 #[] w fun e w' => e = .returned (.bool r) ∧ Below w.heap.size w w' := by
  unfold armisticelaw02_awake.f at h
  obtain rfl := Option.some.inj h
  have hl : token_Lines.f awText = some (awL, 0, 0) := by kernel_rfl
  have hs : armisticelaw02_same.f 20 awL awL = some true := by kernel_rfl
  have hf : armisticelaw02_fails.f ⟨#[97, 32, 32, 98]⟩ 2 = some true := by kernel_rfl
  have hj : armisticelaw02_joins.f ⟨#[97, 98, 32, 99]⟩ 0 [⟨#[97, 98]⟩, ⟨#[99]⟩] = some true := by kernel_rfl
  have HL := Aside0.mk hl
  have HS := Aside0.mk hs
  have HF := Aside0.mk hf
  have HJ := Aside0.mk hj
  clear hl hs hf hj h
  have kc := fun (w : World) (C : Array Value) (n c : Nat) => Lib.run_convert_bytes_const (P := Tryd.prog) w 22 5 C n c Tryd.underlying22 Tryd.underlying5
  go_enter Tryd.func9, Tryd.ntmps9
  go_wp2_with fail
  refine (token_Lines.calls (some ⟨w.heap.size, 0, none⟩) 11 awText awL 0 0 _ (rowC (Kd.int .u8) _ w.heap.size 5 _ awText (awText.map fun x => [.int .u8 x]) (blk_new w _) rfl (by decide) (fun j x c hx hc => by
    rw [List.getElem?_map, hx] at hc
    cases hc
    rfl)) (by decide) HL.out).mono ?_
  rintro e w2 ⟨v, rfl, hS, hb⟩
  obtain ⟨A, c, rfl⟩ := Kd.S_slice hS
  have HS2 := Aside0.mk hS
  have HB := Aside0.mk (((Below.refl _ w).alloc (Nat.le_refl _) _).trans (hb.mono (by simp)))
  clear hS hb kc
  obtain ⟨W0, hW0⟩ : ∃ W0, W0 = w2.alloc (.cells #[.int .i64 0, .int .i64 0] 28) := ⟨_, rfl⟩
  have hz0 : W0.heap.size = w2.heap.size + 1 := by rw [hW0]; simp
  obtain ⟨W3, hW3⟩ : ∃ W3, W3 = ((W0.alloc (.cells #[.string ⟨#[97, 98]⟩, .int .i64 0, .string ⟨#[99]⟩, .int .i64 3] 36)).alloc (.cells #[.string ⟨#[100]⟩, .int .i64 10] 36)).alloc (.cells #[.int .i64 0, .slice (some ⟨w2.heap.size + 1, 0, none⟩) 2 2, .int .i64 10, .slice (some ⟨w2.heap.size + 1 + 1, 0, none⟩) 1 1] 34) := ⟨_, rfl⟩
  have hC := Aside0.mk (awWant W0 W3 (w2.heap.size + 1) hz0 hW3)
  have hB3 : Below w2.heap.size w2 W3 := by
    rw [hW3, hW0]
    exact ((((Below.refl _ w2).alloc (Nat.le_refl _) _).alloc (by simp) _).alloc (by simp; omega) _).alloc (by simp; omega) _
  have hS3 := Aside0.mk (Kd.S_below HS2.out hB3)
  have HB3 := Aside0.mk (HB.out.trans (hB3.mono HB.out.size))
  have HW3 := Aside0.mk hW3
  have HW0 := Aside0.mk hW0
  clear hz0 hB3 hW3 hW0
  go_wp2_with fail
  rw [← HW0.out, ← HW3.out]
  refine (armisticelaw02_same.calls 20 A c awL (some ⟨w2.heap.size + 1 + 1 + 1, 0, none⟩) 2 awL true W3 (Kd.S_reads' hS3.out).2.2 (Kd.S_reads' hS3.out).2.1 hC.out (by decide) HS.out).mono ?_
  rintro e w4 ⟨rfl, hd⟩
  have HB4 := Aside0.mk (HB3.out.trans (hd.below.mono HB3.out.size))
  clear hd
  go_wp2_with fail
  refine (armisticelaw02_fails.calls _ _ _ _ HF.out).mono ?_
  rintro e w5 ⟨rfl, hb5⟩
  have HB5 := Aside0.mk (HB4.out.trans (hb5.mono HB4.out.size))
  clear hb5
  go_wp2_with fail
  refine (armisticelaw02_joins.calls _ _ (some ⟨w5.heap.size, 0, none⟩) 2 [⟨#[97, 98]⟩, ⟨#[99]⟩] true _ (rowC Kd.string _ w5.heap.size 9 _ [⟨#[97, 98]⟩, ⟨#[99]⟩] [[.string ⟨#[97, 98]⟩], [.string ⟨#[99]⟩]] (blk_new w5 _) rfl (by decide) (fun j x c hx hc => by
    match j with
    | 0 => cases hx; cases hc; rfl
    | 1 => cases hx; cases hc; rfl
    | j + 2 => simp at hx)) (by decide) HJ.out).mono ?_
  rintro e w6 ⟨rfl, hb6⟩
  have HB6 := Aside0.mk ((HB5.out.alloc HB5.out.size _).trans (hb6.mono (by have := HB5.out.size; simp; omega)))
  clear hb6
  go_wp2
  refine bodyPost_ret (results_tmp rfl _ _ _) rfl ?_
  exact ⟨rfl, HB6.out⟩
end Go.Proofs.YthhdjbpmkfnhjaaDoor.P
