/- armisticelaw24.StoreKnown: the chapter's examples are answered as it says. -/
import Derived.Test.YtapnegdigghomaaEPuts24
import Derived.Test.YtapnegdigghomaaPx1
namespace Go.Proofs.Ytapnegdigghomaa.P
open Go.RowKit Go.Proofs.YtapnegdigghomaaW.PrintWords Go.Proofs.YtapnegdigghomaaW.PrintLast Go.Proofs.YtapnegdigghomaaW.PrintMore Go.Maps
set_option linter.unusedVariables false
set_option linter.unusedSimpArgs false
theorem hash_n0 : hashI 0 [] = 14695981039346656037 := by kernel_rfl
theorem hash_n1 : hashI 1 [] = 14695981039346656036 := by kernel_rfl
theorem nilC (w : World) : Kd.C (Kd.int .u8) w none ([] : List Int).length [] := Kd.C_nil _ w
theorem rows3 : rowsOf 0 1 [[97], [98], []] 0 = [[97], [98], []] := by kernel_rfl
theorem same3 : armisticelaw24_sameLists.f 5 [[97], [98], []] [[97], [98], []] = some true := by kernel_rfl
/-- The list of lists that the statement lays. -/
theorem want3 (w : World) (W : World) (hW : W = ((w.alloc (.cells #[.int .u8 97] 5 (1, 2))).alloc (.cells #[.int .u8 98] 5 (1, 2))).alloc (.cells #[.slice (some ⟨w.heap.size, 0, none⟩) 1 1, .slice (some ⟨w.heap.size + 1, 0, none⟩) 1 1, .slice none 0 0] 22)) :
    Kd.C kB W (some ⟨w.heap.size + 1 + 1, 0, none⟩) 3 [[97], [98], []] ∧ Below w.heap.size w W := by
  have b1 := below_alloc (Below.refl w.heap.size w) (.cells #[.int .u8 97] 5 (1, 2))
  have b2 := below_alloc (Below.refl _ (w.alloc (.cells #[.int .u8 97] 5 (1, 2)))) (.cells #[.int .u8 98] 5 (1, 2))
  have b3 := below_alloc (Below.refl _ ((w.alloc (.cells #[.int .u8 97] 5 (1, 2))).alloc (.cells #[.int .u8 98] 5 (1, 2)))) (.cells #[.slice (some ⟨w.heap.size, 0, none⟩) 1 1, .slice (some ⟨w.heap.size + 1, 0, none⟩) 1 1, .slice none 0 0] 22)
  rw [← hW] at b3
  have h1 := Kd.C_below (Kd.C_below (byte_row w [97] (1, 2) (by decide)) b2) b3
  have h2 := Kd.C_below (byte_row (w.alloc (.cells #[.int .u8 97] 5 (1, 2))) [98] (1, 2) (by decide)) b3
  rw [World.size_alloc] at h2
  have hblk : W.heap[w.heap.size + 1 + 1]? = some (.cells #[.slice (some ⟨w.heap.size, 0, none⟩) 1 1, .slice (some ⟨w.heap.size + 1, 0, none⟩) 1 1, .slice none 0 0] 22 (0, 0)) := by
    have := blk_new ((w.alloc (.cells #[.int .u8 97] 5 (1, 2))).alloc (.cells #[.int .u8 98] 5 (1, 2))) (.cells #[.slice (some ⟨w.heap.size, 0, none⟩) 1 1, .slice (some ⟨w.heap.size + 1, 0, none⟩) 1 1, .slice none 0 0] 22)
    rw [← hW, World.size_alloc, World.size_alloc] at this
    exact this
  refine ⟨rowC kB W (w.heap.size + 1 + 1) 22 (0, 0) [[97], [98], []] [[.slice (some ⟨w.heap.size, 0, none⟩) 1 1], [.slice (some ⟨w.heap.size + 1, 0, none⟩) 1 1], [.slice none 0 0]] hblk rfl (by decide) (fun j x c hx hc => ?_), (b1.trans (b2.mono (by simp))).trans (b3.mono (by simp; omega))⟩
  match j with
  | 0 => cases hx; cases hc; exact ⟨_, _, rfl, by decide, h1⟩
  | 1 => cases hx; cases hc; exact ⟨_, _, rfl, by decide, h2⟩
  | 2 => cases hx; cases hc; exact ⟨_, _, rfl, by decide, Kd.C_nil _ _⟩
  | j + 3 => simp at hx
set_option maxHeartbeats 4000000 in
set_option maxRecDepth 100000 in
theorem Known_calls (w : World) : Calls Try.prog 6 #[] w fun e w' => e = .returned (.bool true) ∧ Below w.heap.size w w' := by
  have hq0 : ∀ w : World, Calls Try.prog 13 #[.int .i64 0, .slice none 0 0] w fun e w' => e = .returned (.int .u64 14695981039346656037) ∧ Below w.heap.size w w' := fun w => by
    have h := Hash_calls 0 none 0 [] (Nat.le_refl _) (by decide) w (nilC w)
    rw [hash_n0] at h
    exact h
  have hq1 : ∀ w : World, Calls Try.prog 13 #[.int .i64 1, .slice none 0 0] w fun e w' => e = .returned (.int .u64 14695981039346656036) ∧ Below w.heap.size w w' := fun w => by
    have h := Hash_calls 1 none 0 [] (Nat.le_refl _) (by decide) w (nilC w)
    rw [hash_n1] at h
    exact h
  have H0 := Aside0.mk hq0
  have H1 := Aside0.mk hq1
  clear hq0 hq1
  have kc := fun (w : World) (C : Array Value) (n c : Nat) => Lib.run_convert_bytes_const (P := Try.prog) w 22 5 C n c Try.underlying22 Try.underlying5
  go_enter Try.func6, Try.ntmps6
  go_wp2_with fail
  refine (New_yes 0 1 w (by decide) (by decide)).mono ?_
  rintro e w1 ⟨rfl, hS, hb1⟩
  have HS1 := Aside0.mk hS
  have HB1 := Aside0.mk hb1
  clear hS hb1
  go_wp2_with fail
  refine (New_no 0 0 w1 (.inl (by decide))).mono ?_
  rintro e w1 ⟨rfl, rfl⟩
  go_wp2_with fail
  refine (New_no 5 65537 w1 (.inr (by decide))).mono ?_
  rintro e w1 ⟨rfl, rfl⟩
  go_wp2_with fail
  refine (awake_calls w1).mono ?_
  rintro e w2 ⟨rfl, hb⟩
  have HB2 := Aside0.mk hb
  clear hb
  go_wp2_with fail
  refine (H0.out w2).mono ?_
  rintro e w3 ⟨rfl, hb⟩
  have HB3 := Aside0.mk (HB2.out.trans (hb.mono HB2.out.size))
  clear hb HB2
  go_wp2_with fail
  refine (H1.out w3).mono ?_
  rintro e w4 ⟨rfl, hb⟩
  have HB4 := Aside0.mk (HB3.out.trans (hb.mono HB3.out.size))
  have HS4 := Aside0.mk (HS1.out.below HB4.out)
  clear hb HB3
  go_wp2_with fail
  refine (puts_calls w.heap.size 0 1 _ [] w4 HS4.out (by decide) (by decide) (by decide) ⟨#[97]⟩ (by decide) true).mono ?_
  rintro e w5 ⟨he, hS, hc⟩
  obtain rfl : e = .returned (.bool true) := he
  have hS : StO w5 w.heap.size 0 1 _ [[97]] := hS
  have HS5 := Aside0.mk hS
  have HC5 := Aside0.mk hc
  clear hS hc
  go_wp2_with fail
  refine (puts_calls w.heap.size 0 1 _ [[97]] w5 HS5.out (by decide) (by decide) (by decide) ⟨#[98]⟩ (by decide) true).mono ?_
  rintro e w6 ⟨he, hS, hc⟩
  obtain rfl : e = .returned (.bool true) := he
  have hS : StO w6 w.heap.size 0 1 _ [[97], [98]] := hS
  have HS6 := Aside0.mk hS
  have HC6 := Aside0.mk hc
  clear hS hc
  go_wp2_with fail
  refine (puts_calls w.heap.size 0 1 _ [[97], [98]] w6 HS6.out (by decide) (by decide) (by decide) ⟨#[97]⟩ (by decide) false).mono ?_
  rintro e w7 ⟨he, hS, hc⟩
  obtain rfl : e = .returned (.bool true) := he
  have hS : StO w7 w.heap.size 0 1 _ [[97], [98]] := hS
  have HS7 := Aside0.mk hS
  have HC7 := Aside0.mk hc
  clear hS hc
  go_wp2_with fail
  have hcv : Calls Try.prog 18 #[.pointer (some ⟨w.heap.size, 0, none⟩), .slice (some ⟨w7.heap.size, 0, none⟩) 1 1] (w7.alloc (.cells #[.int .u8 98] 5 (1, 2))) fun e w' => e = .returned (.bool (hasB [[97], [98]] [98])) ∧ Below (w7.alloc (.cells #[.int .u8 98] 5 (1, 2))).heap.size (w7.alloc (.cells #[.int .u8 98] 5 (1, 2))) w' :=
    Has_calls w.heap.size 0 1 _ [[97], [98]] _ (HS7.out.below (below_alloc (Below.refl _ w7) _)) (by decide) (by decide) (by decide) (some ⟨w7.heap.size, 0, none⟩) 1 [98] (by decide) (by decide) (byte_row w7 [98] (1, 2) (by decide)) (by decide)
  refine hcv.mono ?_
  clear hcv
  rintro e w8 ⟨he, hb⟩
  obtain rfl : e = .returned (.bool true) := he
  have HB8 := Aside0.mk ((below_alloc (Below.refl w7.heap.size w7) (.cells #[.int .u8 98] 5 (1, 2))).trans (hb.mono (by simp)))
  have HS8 := Aside0.mk (HS7.out.below HB8.out)
  clear hb
  go_wp2_with fail
  have hcv : Calls Try.prog 18 #[.pointer (some ⟨w.heap.size, 0, none⟩), .slice none 0 0] w8 fun e w' => e = .returned (.bool (hasB [[97], [98]] [])) ∧ Below w8.heap.size w8 w' :=
    Has_calls w.heap.size 0 1 _ [[97], [98]] _ HS8.out (by decide) (by decide) (by decide) none 0 [] (by decide) (by decide) (nilC w8) (by decide)
  refine hcv.mono ?_
  clear hcv
  rintro e w9 ⟨he, hb⟩
  obtain rfl : e = .returned (.bool false) := he
  have HB9 := Aside0.mk (HB8.out.trans (hb.mono HB8.out.size))
  have HS9 := Aside0.mk (HS7.out.below HB9.out)
  clear hb HB8
  go_wp2_with fail
  refine (puts_calls w.heap.size 0 1 _ [[97], [98]] w9 HS9.out (by decide) (by decide) (by decide) ⟨#[]⟩ (by decide) true).mono ?_
  rintro e w10 ⟨he, hS, hc⟩
  obtain rfl : e = .returned (.bool true) := he
  have hS : StO w10 w.heap.size 0 1 _ [[97], [98], []] := hS
  have HS10 := Aside0.mk hS
  have HC10 := Aside0.mk hc
  clear hS hc
  go_wp2_with fail
  refine (Len_calls _ 0 1 _ [[97], [98], []] w10 HS10.out (by decide)).mono ?_
  rintro e w10 ⟨rfl, rfl⟩
  go_wp2_with fail
  refine (Bucket_yes _ 0 1 _ [[97], [98], []] w10 HS10.out (by decide) (by decide) (by decide) 0 (by decide) (by decide)).mono ?_
  rintro e w11 ⟨v, rfl, hS, hb⟩
  rw [rows3] at hS
  obtain ⟨A, c, rfl⟩ := Kd.S_slice hS
  have HR := Aside0.mk hS
  have HB11 := Aside0.mk hb
  have HS11 := Aside0.mk (HS10.out.below hb)
  clear hS hb
  go_wp2_with fail
  refine (Bucket_no _ 0 1 _ [[97], [98], []] w11 HS11.out (by decide) 1 (.inr (by decide))).mono ?_
  rintro e w11 ⟨rfl, rfl⟩
  have kc2 := kc (w11.alloc (.cells #[.int .u8 97] 5 (1, 2))) #[.int .u8 98] 1 1
  rw [World.size_alloc] at kc2
  go_wp2_with fail
  obtain ⟨W, hW⟩ : ∃ W, W = ((w11.alloc (.cells #[.int .u8 97] 5 (1, 2))).alloc (.cells #[.int .u8 98] 5 (1, 2))).alloc (.cells #[.slice (some ⟨w11.heap.size, 0, none⟩) 1 1, .slice (some ⟨w11.heap.size + 1, 0, none⟩) 1 1, .slice none 0 0] 22) := ⟨_, rfl⟩
  obtain ⟨hwC, hwB⟩ := want3 w11 W hW
  rw [← hW]
  have hR := Kd.S_reads' (Kd.S_below HR.out hwB)
  have HWB := Aside0.mk hwB
  refine (armisticelaw24_sameLists.calls 5 A c [[97], [98], []] (some ⟨w11.heap.size + 1 + 1, 0, none⟩) 3 [[97], [98], []] true W hR.2.2 hR.2.1 hwC (by decide) same3).mono ?_
  rintro e w12 ⟨rfl, hd⟩
  have HB12 := Aside0.mk hd.below
  clear hd hR hwC hwB hW kc kc2
  go_wp2
  go_ret
  refine ⟨rfl, ?_⟩
  have z1 := HB1.out.size
  have z4 := HB4.out.size
  have b5 := HC5.out.below (B := w.heap.size) (by omega) (fun k hk => hk)
  have z5 := b5.size
  have b6 := HC6.out.below (B := w.heap.size) (by omega) (fun k hk => by omega)
  have z6 := b6.size
  have b7 := HC7.out.below (B := w.heap.size) (by omega) (fun k hk => by omega)
  have z7 := b7.size
  have z9 := HB9.out.size
  have b10 := HC10.out.below (B := w.heap.size) (by omega) (fun k hk => by omega)
  have z10 := b10.size
  have z11 := HB11.out.size
  have zW := HWB.out.size
  exact (((((((((HB1.out.trans (HB4.out.mono z1)).trans b5).trans b6).trans b7).trans (HB9.out.mono (by omega))).trans b10).trans (HB11.out.mono (by omega))).trans (HWB.out.mono (by omega))).trans (HB12.out.mono (by omega)))
end Go.Proofs.Ytapnegdigghomaa.P
