/- armisticelaw24: puts, awake. -/
import Derived.Test.YtapnegdigghomaaEStoreBkt
import Derived.Test.YtapnegdigghomaaEConv
import Derived.Lib.SlBytesConst
namespace Go.Proofs.Ytapnegdigghomaa.P
open Go.RowKit Go.Proofs.YtapnegdigghomaaW.PrintWords Go.Proofs.YtapnegdigghomaaW.PrintLast Go.Proofs.YtapnegdigghomaaW.PrintMore Go.Maps
set_option linter.unusedVariables false
set_option linter.unusedSimpArgs false
def putL (l : List (List Int)) (b : List Int) : List (List Int) := if hasB l b = true then l else l ++ [b]
theorem Put_calls (p : Nat) (sd bk : Int) (S : Nat → Prop) (l : List (List Int)) (w : World) (h : StO w p sd bk S l) (hb0 : 1 ≤ bk) (hb1 : bk ≤ 65536) (hll : l.length ≤ 1000000)
    (A0 : Option Addr) (c0 : Nat) (bs : List Int) (hc0 : bs.length ≤ c0) (hl : bs.length < 140737488355328) (hr : ∀ w', Chg S w w' → Kd.C (Kd.int .u8) w' A0 bs.length bs) (hub : isU8 bs = true) :
    Calls Try.prog 20 #[.pointer (some ⟨p, 0, none⟩), .slice A0 bs.length c0] w fun e w' => e = .returned (.tuple #[.bool (!hasB l bs), .int .i64 0]) ∧ StO w' p sd bk (fun k => S k ∨ w.heap.size ≤ k) (putL l bs) ∧ Chg S w w' := by
  unfold putL
  cases hh : hasB l bs with
  | true =>
    refine (Put_old p sd bk S l w h hb0 hb1 hll A0 c0 bs hc0 hl (hr w (Chg.refl _ _)) hub hh).mono ?_
    rintro e w' ⟨rfl, hb⟩
    exact ⟨rfl, by simpa using (h.below hb).mono (fun k hk => .inl hk), Chg.of_below _ hb⟩
  | false =>
    refine (Put_new p sd bk S l w h hb0 hb1 hll A0 c0 bs hc0 hl hr hub hh).mono ?_
    rintro e w' ⟨rfl, h1, h2⟩
    exact ⟨rfl, by simpa using h1, h2⟩
theorem bytesOf_u8 (s : ByteArray) : isU8 (bytesOf s) = true := by
  refine List.all_eq_true.2 (fun x hx => ?_)
  obtain ⟨b, _, rfl⟩ := List.mem_map.1 hx
  have := b.toNat_lt
  simp only [Bool.and_eq_true, decide_eq_true_eq]
  omega
set_option maxHeartbeats 1000000 in
theorem puts_calls (p : Nat) (sd bk : Int) (S : Nat → Prop) (l : List (List Int)) (w : World) (h : StO w p sd bk S l) (hb0 : 1 ≤ bk) (hb1 : bk ≤ 65536) (hll : l.length ≤ 1000000) (s : ByteArray) (hs : s.size ≤ 1000000) (want : Bool) :
    Calls Try.prog 28 #[.pointer (some ⟨p, 0, none⟩), .string s, .bool want] w fun e w' => e = .returned (.bool ((!hasB l (bytesOf s)) == want)) ∧ StO w' p sd bk (fun k => S k ∨ w.heap.size ≤ k) (putL l (bytesOf s)) ∧ Chg S w w' := by
  have hB := convW_below w s
  have hz := convW_size w s
  have hC := convW_reads w s (by omega)
  have hcap := convW_cap w s
  have hP := Put_calls p sd bk (fun k => S k ∧ k < w.heap.size) l (convW w s) (h.bound.below hB) hb0 hb1 hll (some ⟨w.heap.size, 0, none⟩) _ (bytesOf s) hcap (by rw [bytesOf_len]; omega) (fun w' hc => by
    have hb : Below (w.heap.size + 1) (convW w s) w' ∨ True := .inr trivial
    refine ⟨hC.1, hC.2.1, fun hn => ?_⟩
    obtain ⟨ad, e, hcc⟩ := hC.2.2 hn
    cases e
    refine ⟨_, rfl, fun j q hj => ?_⟩
    obtain ⟨c, h1, h2, h3⟩ := hcc j q hj
    refine ⟨c, h1, h2, fun i u hu => ?_⟩
    have h4 := h3 i u hu
    have h5 := World.block_lt_of_cell? _ _ h4
    have h6 : ((⟨w.heap.size, 0, none⟩ : Addr).add (j * (Kd.int .u8).sz + i)).block = w.heap.size := add_block _ _
    exact (World.cell?_of_block (hc.block _ h5 (by rw [h6]; omega))).trans h4) (bytesOf_u8 s)
  rw [bytesOf_len] at hP
  have HP := Aside0.mk hP
  have HB := Aside0.mk hB
  have hcv := conv_run w s
  have hz := Aside0.mk hz
  clear hB hC hcap hP h
  go_enter Try.func28, Try.ntmps28
  go_wp2_with fail
  refine HP.out.mono ?_
  rintro e w2 ⟨rfl, hS, hch⟩
  have HS := Aside0.mk hS
  have HC := Aside0.mk hch
  clear hS hch hcv
  go_wp2
  all_goals
    refine bodyPost_ret (results_tmp rfl _ _ _) rfl ?_
    refine ⟨?_, HS.out.mono (fun k hk => hk.elim (fun h => .inl h.1) (fun h => .inr (by have := hz.out; omega))), (Chg.of_below S HB.out).trans HC.out (fun k hk => .inl hk.1)⟩
    first
    | rfl
    | (simp; done)
    | (simp [*]; done)
theorem hash_a : hashI 0 [97] = 12638187200555641996 := by kernel_rfl
theorem byte_row (w : World) (l : List Int) (fr : Nat × Nat) (hl : l.length ≤ 9223372036854775807) : Kd.C (Kd.int .u8) (w.alloc (.cells (l.map fun x => [Value.int .u8 x]).flatten.toArray 5 fr)) (some ⟨w.heap.size, 0, none⟩) l.length l :=
  rowC (Kd.int .u8) _ w.heap.size 5 fr l (l.map fun x => [.int .u8 x]) (blk_new w _) (by simp) hl (fun j x c hx hc => by
    rw [List.getElem?_map, hx] at hc
    cases hc
    rfl)
set_option maxHeartbeats 2000000 in
set_option maxRecDepth 100000 in
theorem awake_calls (w : World) : Calls Try.prog 9 #[] w fun e w' => e = .returned (.bool true) ∧ Below w.heap.size w w' := by
  have HH := Aside0.mk hash_a
  have kc := fun (w : World) (C : Array Value) (n c : Nat) => Lib.run_convert_bytes_const (P := Try.prog) w 22 5 C n c Try.underlying22 Try.underlying5
  go_enter Try.func9, Try.ntmps9
  go_wp2_with fail
  refine (New_yes 0 1 w (by decide) (by decide)).mono ?_
  rintro e w1 ⟨rfl, hS, hb1⟩
  have HS := Aside0.mk hS
  have HB1 := Aside0.mk hb1
  clear hS hb1
  go_wp2_with fail
  have hHc : Calls Try.prog 13 #[.int .i64 0, .slice (some ⟨w1.heap.size, 0, none⟩) 1 1] (w1.alloc (.cells #[.int .u8 97] 5 (1, 2))) fun e w' => e = .returned (.int .u64 (hashI 0 [97])) ∧ Below (w1.alloc (.cells #[.int .u8 97] 5 (1, 2))).heap.size (w1.alloc (.cells #[.int .u8 97] 5 (1, 2))) w' := Hash_calls 0 (some ⟨w1.heap.size, 0, none⟩) 1 [97] (by decide) (by decide) _ (byte_row w1 [97] (1, 2) (by decide))
  rw [HH.out] at hHc
  refine hHc.mono ?_
  clear hHc
  rintro e w2 ⟨rfl, hb2⟩
  have HB2 := Aside0.mk ((below_alloc (Below.refl w1.heap.size w1) (.cells #[.int .u8 97] 5 (1, 2))).trans (hb2.mono (by simp)))
  have HS2 := Aside0.mk (HS.out.below HB2.out)
  clear hb2 kc
  go_wp2_with fail
  refine (puts_calls w.heap.size 0 1 _ [] w2 HS2.out (by decide) (by decide) (by decide) ⟨#[97]⟩ (by decide) true).mono ?_
  rintro e w3 ⟨he, hS, hc⟩
  obtain rfl : e = .returned (.bool true) := he
  have hS : StO w3 w.heap.size 0 1 _ [[97]] := hS
  have HS3 := Aside0.mk hS
  have HC3 := Aside0.mk hc
  clear hS hc
  go_wp2_with fail
  refine (puts_calls w.heap.size 0 1 _ [[97]] w3 HS3.out (by decide) (by decide) (by decide) ⟨#[98]⟩ (by decide) true).mono ?_
  rintro e w4 ⟨he, hS, hc⟩
  obtain rfl : e = .returned (.bool true) := he
  have hS : StO w4 w.heap.size 0 1 _ [[97], [98]] := hS
  have HS4 := Aside0.mk hS
  have HC4 := Aside0.mk hc
  clear hS hc
  go_wp2_with fail
  refine (puts_calls w.heap.size 0 1 _ [[97], [98]] w4 HS4.out (by decide) (by decide) (by decide) ⟨#[97]⟩ (by decide) false).mono ?_
  rintro e w5 ⟨he, hS, hc⟩
  obtain rfl : e = .returned (.bool true) := he
  have hS : StO w5 w.heap.size 0 1 _ [[97], [98]] := hS
  have HS5 := Aside0.mk hS
  have HC5 := Aside0.mk hc
  clear hS hc
  go_wp2_with fail
  refine (Len_calls _ 0 1 _ [[97], [98]] w5 HS5.out (by decide)).mono ?_
  rintro e w5 ⟨rfl, rfl⟩
  go_wp2
  go_ret
  refine ⟨rfl, ?_⟩
  have z1 := HB1.out.size
  have z2 := HB2.out.size
  have b3 := HC3.out.below (B := w.heap.size) (by omega) (fun k hk => hk)
  have z3 := b3.size
  have b4 := HC4.out.below (B := w.heap.size) (by omega) (fun k hk => by omega)
  have z4 := b4.size
  have b5 := HC5.out.below (B := w.heap.size) (by omega) (fun k hk => by omega)
  exact (((HB1.out.trans (HB2.out.mono z1)).trans b3).trans b4).trans b5
end Go.Proofs.Ytapnegdigghomaa.P
