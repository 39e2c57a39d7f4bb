/- Layer 3's examples: adds, of, two, awake, NamesKnown. -/
import Derived.Test.YtfnonbbakkcoaaaERef03
import Derived.Test.YtfnonbbakkcoaaaETabOf
namespace Go.Proofs.Ytfnonbbakkcoaaa.P
open Go.RowKit Go.Proofs.YtfnonbbakkcoaaaW.PrintWords Go.Proofs.YtfnonbbakkcoaaaW.PrintLast Go.Proofs.YtfnonbbakkcoaaaW.PrintMore Go.Maps
set_option linter.unusedVariables false
set_option linter.unusedSimpArgs false
attribute [local go_sem ↓] Go.wp_at_zero Go.wp_at_succ
theorem adds_calls (p : Nat) (S : Nat → Prop) (l : List ByteArray) (s : ByteArray) (hs : s.size ≤ 140737488351232) (hl : l.length < 5000) (w : World) (h : TbO w p S l) (x y : Int) (hv : addV l s = .tuple #[.int .i64 x, .int .i64 y]) :
    Calls Try.prog 34 #[.pointer (some ⟨p, 0, none⟩), .string s, .int .i64 x, .int .i64 y] w fun e w' => e = .returned (.bool true) ∧ TbO w' p (fun k => S k ∨ w.heap.size ≤ k) (addN l s) ∧ Chg S w w' := by
  have HA := Aside0.mk (Add_calls p S l s hs hl w h)
  rw [hv] at HA
  clear h hv
  go_enter Try.func34, Try.ntmps34
  go_wp2_with fail
  refine HA.out.mono ?_
  rintro e w' ⟨rfl, hT, hC⟩
  have HT := Aside0.mk hT
  have HC := Aside0.mk hC
  clear hT hC
  go_wp2
  go_ret
  exact ⟨by simp, HT.out, HC.out⟩
theorem of_calls (p : Nat) (S : Nat → Prop) (l : List ByteArray) (s : ByteArray) (hs : s.size ≤ maxLen) (w : World) (h : TbO w p S l) (x y : Int) (hv : ofN l s = .tuple #[.int .i64 x, .int .i64 y]) :
    Calls Try.prog 25 #[.pointer (some ⟨p, 0, none⟩), .string s, .int .i64 x, .int .i64 y] w fun e w' => e = .returned (.bool true) ∧ Below w.heap.size w w' := by
  have HA := Aside0.mk (show Calls Try.prog 16 #[.pointer (some ⟨p, 0, none⟩), .string s] w fun e w' => e = .returned (ofN l s) ∧ Below w.heap.size w w' from Of_calls p S l s hs w h)
  rw [hv] at HA
  clear h hv
  go_enter Try.func25, Try.ntmps25
  go_wp2_with fail
  refine HA.out.mono ?_
  rintro e w' ⟨rfl, hB⟩
  go_wp2
  go_ret
  exact ⟨by simp, hB⟩
def nA : ByteArray := ⟨#[97]⟩
def nB : ByteArray := ⟨#[98]⟩
theorem two_calls (w : World) : Calls Try.prog 24 #[] w fun e w' => ∃ p, e = .returned (.pointer (some ⟨p, 0, none⟩)) ∧ w.heap.size ≤ p ∧ TbO w' p (fun k => w.heap.size ≤ k) [nB, nA] ∧ Below w.heap.size w w' := by
  go_enter Try.func24, Try.ntmps24
  go_wp2_with fail
  refine (New_calls w).mono ?_
  rintro e w1 ⟨p, rfl, hp, hT, hb⟩
  have HT := Aside0.mk hT
  have HB := Aside0.mk hb
  clear hT hb
  go_wp2_with fail
  refine (adds_calls p _ [] nB (by decide) (by decide) w1 HT.out 0 0 (by kernel_rfl)).mono ?_
  rintro e w2 ⟨rfl, hT, hc⟩
  have HT2 := Aside0.mk (show TbO w2 p (fun k => w.heap.size ≤ k) [nB] from hT.mono (fun k hk => by have := HB.out.size; omega))
  have HB2 := Aside0.mk (HB.out.trans (hc.below HB.out.size (fun k hk => hk)))
  clear hT hc HT
  go_wp2_with fail
  refine (adds_calls p _ [nB] nA (by decide) (by decide) w2 HT2.out 1 0 (by kernel_rfl)).mono ?_
  rintro e w3 ⟨rfl, hT, hc⟩
  have HT3 := Aside0.mk (show TbO w3 p (fun k => w.heap.size ≤ k) [nB, nA] from hT.mono (fun k hk => by have := HB2.out.size; omega))
  have HB3 := Aside0.mk (HB2.out.trans (hc.below HB2.out.size (fun k hk => hk)))
  clear hT hc HT2
  go_wp2_with fail
  refine (adds_calls p _ [nB, nA] nB (by decide) (by decide) w3 HT3.out 0 10 (by kernel_rfl)).mono ?_
  rintro e w4 ⟨rfl, hT, hc⟩
  have HT4 := Aside0.mk (show TbO w4 p (fun k => w.heap.size ≤ k) [nB, nA] from hT.mono (fun k hk => by have := HB3.out.size; omega))
  have HB4 := Aside0.mk (HB3.out.trans (hc.below HB3.out.size (fun k hk => hk)))
  clear hT hc HT3
  go_wp2_with fail
  refine (adds_calls p _ [nB, nA] ⟨#[65]⟩ (by decide) (by decide) w4 HT4.out 0 7 (by kernel_rfl)).mono ?_
  rintro e w5 ⟨rfl, hT, hc⟩
  have HT5 := Aside0.mk (show TbO w5 p (fun k => w.heap.size ≤ k) [nB, nA] from hT.mono (fun k hk => by have := HB4.out.size; omega))
  have HB5 := Aside0.mk (HB4.out.trans (hc.below HB4.out.size (fun k hk => hk)))
  clear hT hc HT4
  go_wp2_with fail
  refine (Len_calls p _ [nB, nA] w5 HT5.out).mono ?_
  rintro e w6 ⟨rfl, rfl⟩
  go_wp2
  go_ret
  exact ⟨p, rfl, hp, HT5.out, HB5.out⟩
theorem lit_row {w : World} (base : Nat) (hb : base ≤ w.heap.size) (xs : List Int) (hx : 0 < xs.length) (hl : xs.length ≤ 1000) : (Kd.int .i64).R 3 (w.alloc (.cells (encs (Value.int .i64) xs).toArray 3)) base (fun _ => True) (.slice (some ⟨w.heap.size, 0, none⟩) xs.length xs.length) xs := by
  refine Kd.R_of_own ⟨by simp [encs], .inr ⟨w.heap.size, xs.length, _, rfl, hb, by simpa using heap_alloc_new w _, Nat.le_refl _, by simp only [maxLen]; omega, by simp [encs], by simp only [encs, Nat.mul_one]; exact List.take_of_length_le (by simp)⟩⟩ (fun _ _ => trivial)
theorem two_ord {o : List Int} (h : IsOrd [nB, nA] o) : o = [1, 0] := by
  rw [← h.ref (by decide)]
  decide
theorem awake_calls (w : World) : Calls Try.prog 9 #[] w fun e w' => e = .returned (.bool true) ∧ Below w.heap.size w w' := by
  go_enter Try.func9, Try.ntmps9
  go_wp2_with fail
  refine (two_calls w).mono ?_
  rintro e w1 ⟨p, rfl, hp, hT, hb⟩
  have HT := Aside0.mk hT
  have HB := Aside0.mk hb
  clear hT hb
  go_wp2_with fail
  refine (Order_calls p _ [nB, nA] (by decide) w1 HT.out).mono ?_
  rintro e w2 ⟨v, o, rfl, hR, hO, hb⟩
  obtain rfl := two_ord hO
  obtain ⟨A, c, rfl, hc, hC⟩ := Kd.R_reads hR
  have HC := Aside0.mk hC
  have HB2 := Aside0.mk (HB.out.trans (hb.mono HB.out.size))
  have HT2 := Aside0.mk (HT.out.below hb)
  clear hR hO hb hC HT
  go_wp2_with fail
  have HR3 := Aside0.mk (show (Kd.int .i64).C (w2.alloc (.cells #[.int .i64 1, .int .i64 0] 3)) (some ⟨w2.heap.size, 0, none⟩) 2 [1, 0] from (Kd.R_reads' (lit_row w2.heap.size (Nat.le_refl _) [1, 0] (by decide) (by decide))).2.2)
  have HBa := Aside0.mk (below_alloc (Below.refl w2.heap.size w2) (.cells #[.int .i64 1, .int .i64 0] 3))
  refine (armisticekit_SameInts.calls 3 A c [1, 0] _ 2 [1, 0] true _ (Kd.C_below HC.out HBa.out) hc HR3.out (by decide) (same_f [1, 0] (by decide))).mono ?_
  rintro e w3 ⟨rfl, hd⟩
  have HB3 := Aside0.mk (HBa.out.trans (hd.below.mono HBa.out.size))
  have HT3 := Aside0.mk (HT2.out.below HB3.out)
  have HB3 := Aside0.mk (HB2.out.trans (HB3.out.mono HB2.out.size))
  clear hd
  go_wp2_with fail
  refine (of_calls p _ [nB, nA] nA (by decide) w3 HT3.out 1 0 (by kernel_rfl)).mono ?_
  rintro e w4 ⟨rfl, hb⟩
  go_wp2
  go_ret
  exact ⟨rfl, HB3.out.trans (hb.mono HB3.out.size)⟩
set_option maxHeartbeats 2000000 in
theorem Known_calls (w : World) : Calls Try.prog 5 #[] w fun e w' => e = .returned (.bool true) ∧ Below w.heap.size w w' := by
  have HK1 := Aside0.mk (fun w' => Check_calls ⟨#[97, 95, 49]⟩ w' (by decide))
  have HK2 := Aside0.mk (fun w' => Check_calls ⟨#[49, 97]⟩ w' (by decide))
  have HK3 := Aside0.mk (fun w' => Check_calls ⟨#[95]⟩ w' (by decide))
  have HK4 := Aside0.mk (fun w' => Check_calls ⟨#[]⟩ w' (by decide))
  rw [show errN (nameB ⟨#[97, 95, 49]⟩) = 0 from by kernel_rfl] at HK1
  rw [show errN (nameB ⟨#[49, 97]⟩) = 7 from by kernel_rfl] at HK2
  rw [show errN (nameB ⟨#[95]⟩) = 7 from by kernel_rfl] at HK3
  rw [show errN (nameB ⟨#[]⟩) = 7 from by kernel_rfl] at HK4
  go_enter Try.func5, Try.ntmps5
  go_wp2_with fail
  refine (two_calls w).mono ?_
  rintro e w1 ⟨p, rfl, hp, hT, hb⟩
  have HT := Aside0.mk hT
  have HB := Aside0.mk hb
  clear hT hb
  go_wp2_with fail
  refine (of_calls p _ [nB, nA] ⟨#[99]⟩ (by decide) w1 HT.out 0 11 (by kernel_rfl)).mono ?_
  rintro e w2 ⟨rfl, hb⟩
  have HT2 := Aside0.mk (HT.out.below hb)
  have HB2 := Aside0.mk (HB.out.trans (hb.mono HB.out.size))
  clear hb HT HB
  go_wp2_with fail
  have HN := Name_calls p _ [nB, nA] 0 w2 HT2.out
  rw [show nameV [nB, nA] 0 = .tuple #[.string ⟨#[98]⟩, .int .i64 0] from by kernel_rfl] at HN
  refine HN.mono ?_
  clear HN
  rintro e w3 ⟨rfl, hd⟩
  have HT3 := Aside0.mk (HT2.out.below hd.below)
  have HB3 := Aside0.mk (HB2.out.trans (hd.below.mono HB2.out.size))
  clear hd HT2 HB2
  go_wp2_with fail
  have HN := Name_calls p _ [nB, nA] 2 w3 HT3.out
  rw [show nameV [nB, nA] 2 = .tuple #[.string ⟨#[]⟩, .int .i64 3] from by kernel_rfl] at HN
  refine HN.mono ?_
  clear HN
  rintro e w4 ⟨rfl, hd⟩
  have HB4 := Aside0.mk (HB3.out.trans (hd.below.mono HB3.out.size))
  clear hd HT3 HB3
  go_wp2_with fail
  refine (awake_calls w4).mono ?_
  rintro e w5 ⟨rfl, hb⟩
  have HB5 := Aside0.mk (HB4.out.trans (hb.mono HB4.out.size))
  clear hb HB4
  go_wp2_with fail
  refine (HK1.out w5).mono ?_
  rintro e w6 ⟨rfl, hd⟩
  have HB6 := Aside0.mk (HB5.out.trans (hd.below.mono HB5.out.size))
  clear hd HB5
  go_wp2_with fail
  refine (HK2.out w6).mono ?_
  rintro e w7 ⟨rfl, hd⟩
  have HB7 := Aside0.mk (HB6.out.trans (hd.below.mono HB6.out.size))
  clear hd HB6
  go_wp2_with fail
  refine (HK3.out w7).mono ?_
  rintro e w8 ⟨rfl, hd⟩
  have HB8 := Aside0.mk (HB7.out.trans (hd.below.mono HB7.out.size))
  clear hd HB7
  go_wp2_with fail
  refine (HK4.out w8).mono ?_
  rintro e w9 ⟨rfl, hd⟩
  go_wp2
  go_ret
  exact ⟨rfl, HB8.out.trans (hd.below.mono HB8.out.size)⟩
end Go.Proofs.Ytfnonbbakkcoaaa.P
