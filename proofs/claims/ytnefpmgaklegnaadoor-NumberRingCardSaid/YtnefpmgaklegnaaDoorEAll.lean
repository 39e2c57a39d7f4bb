/- What number.All comes to: the sum of the numbers, where it is a number of 64 bits; else an error. Every list of numbers. -/
import Derived.Test.YtnefpmgaklegnaaDoorPx0
import Derived.WalkMore
import Derived.Deep.QuietTactic
import Derived.BigQuiet
import Derived.StillTailTactics
namespace Go.Proofs.YtnefpmgaklegnaaDoor.P
open Go.RowKit Go.Proofs.YtnefpmgaklegnaaDoorW.PrintWords Go.Proofs.YtnefpmgaklegnaaDoorW.PrintLast Go.Proofs.YtnefpmgaklegnaaDoorW.PrintMore
set_option linter.unusedVariables false
set_option linter.unusedSimpArgs false

def sumL (l : List Int) : Int := l.foldl (· + ·) 0
def isI64 (x : Int) : Prop := -9223372036854775808 ≤ x ∧ x ≤ 9223372036854775807
instance (x : Int) : Decidable (isI64 x) := inferInstanceAs (Decidable (_ ∧ _))
def number_All.f (l : List Int) : Option (Int × Int) := if (∀ x ∈ l, isI64 x) ∧ l.length ≤ 17592186044416 then some (if isI64 (sumL l) then (sumL l, 0) else (0, 3)) else none

def lo64 (x y c : Int) : Int := (x + y + c) % 18446744073709551616
def hi64 (x y c : Int) : Int := (x + y + c) / 18446744073709551616
theorem add64_call (x y c : Int) (hx : 0 ≤ x) (hy : 0 ≤ y) (hc0 : 0 ≤ c) (hc : c ≤ 1) (w : World) :
    (callFunc 35 #[.int .u64 x, .int .u64 y, .int .u64 c]).run Tryd.prog w = .ok (.value (.tuple #[.int .u64 (lo64 x y c), .int .u64 (hi64 x y c)])) w := by
  rw [run_callFunc_extern (e := add64Entry) Tryd.func35 (by kernel_rfl) rfl (by rfl) (by rfl), run_add64 x y c hx hy hc0 hc]
  rfl
theorem u64_nonneg (n : Int) : 0 ≤ IntKind.u64.wrap n := by
  simp only [IntKind.wrap_u64]
  omega

set_option maxHeartbeats 1000000 in
set_option maxRecDepth 100000 in
theorem halves_add (B : Nat) (x y n : Int) (w : World) (hx : 0 ≤ x) (hy : 0 ≤ y) (hc : 0 ≤ hi64 x (IntKind.u64.wrap n) 0 ∧ hi64 x (IntKind.u64.wrap n) 0 ≤ 1)
    (h0 : w.cell? ⟨B, 0, none⟩ = some (.int .u64 x)) (h1 : w.cell? ⟨B, 1, none⟩ = some (.int .u64 y)) (f0 : w.frozen? ⟨B, 0, none⟩ = false) (f1 : w.frozen? ⟨B, 1, none⟩ = false) :
    Calls Tryd.prog 31 #[.pointer (some ⟨B, 0, none⟩), .int .i64 n] w fun e w' => e = .returned (.tuple #[]) ∧
      (w'.cell? ⟨B, 0, none⟩ = some (.int .u64 (lo64 x (IntKind.u64.wrap n) 0)) ∧ w'.cell? ⟨B, 1, none⟩ = some (.int .u64 (lo64 y (IntKind.u64.wrap (n / 9223372036854775808)) (hi64 x (IntKind.u64.wrap n) 0))) ∧
        w'.frozen? ⟨B, 0, none⟩ = false ∧ w'.frozen? ⟨B, 1, none⟩ = false ∧ Below B w w') := by
  have ha := fun W => add64_call x (IntKind.u64.wrap n) 0 hx (u64_nonneg n) (by omega) (by omega) W
  have hb := fun W => add64_call y (IntKind.u64.wrap (n / 9223372036854775808)) (hi64 x (IntKind.u64.wrap n) 0) hy (u64_nonneg _) hc.1 hc.2 W
  go_enter Tryd.func31, Tryd.ntmps31
  go_wp2
  go_region
  go_wp2
  go_region
  go_wp2
  go_end0
  refine ⟨rfl, ?_, ?_, ?_, ?_, ((((Below.refl B w).setCell (p := ⟨B, 0, none⟩) (Nat.le_refl _) _).setCell (p := ⟨B, 1, none⟩) (Nat.le_refl _) _).drew).drew⟩
  · go_simp
  · go_simp
  · go_simp
  · go_simp

/-! The numbers: a sum in two halves of 64 bits. -/
def loS (S : Int) : Int := S % 18446744073709551616
def hiS (S : Int) : Int := (S / 18446744073709551616) % 18446744073709551616
theorem loS_range (S : Int) : 0 ≤ loS S := by unfold loS; omega
theorem hiS_range (S : Int) : 0 ≤ hiS S := by unfold hiS; omega
theorem carry_range (S n : Int) : 0 ≤ hi64 (loS S) (IntKind.u64.wrap n) 0 ∧ hi64 (loS S) (IntKind.u64.wrap n) 0 ≤ 1 := by
  simp only [IntKind.wrap_u64]
  unfold hi64 loS
  omega
theorem lo_step (S n : Int) : lo64 (loS S) (IntKind.u64.wrap n) 0 = loS (S + n) := by
  simp only [IntKind.wrap_u64]
  unfold lo64 loS
  omega
theorem hi_step (S n : Int) (hn : isI64 n) : lo64 (hiS S) (IntKind.u64.wrap (n / 9223372036854775808)) (hi64 (loS S) (IntKind.u64.wrap n) 0) = hiS (S + n) := by
  simp only [IntKind.wrap_u64]
  unfold isI64 at hn
  unfold lo64 hi64 loS hiS
  by_cases c : 0 ≤ n
  · rw [show n / 9223372036854775808 = 0 by omega]
    omega
  · rw [show n / 9223372036854775808 = -1 by omega]
    omega
theorem sum_take (l : List Int) (k : Nat) (hk : k < l.length) : sumL (l.take (k + 1)) = sumL (l.take k) + rd l k := by
  unfold sumL rd
  rw [List.take_succ_eq_append_getElem hk, List.foldl_append]
  simp [List.getD, hk]
theorem sum_from (l : List Int) : ∀ a : Int, l.foldl (· + ·) a = a + sumL l := by
  unfold sumL
  induction l with
  | nil => intro a; simp
  | cons x l ih =>
    intro a
    simp only [List.foldl_cons]
    rw [ih (a + x), ih (0 + x)]
    omega
theorem sum_bound (l : List Int) (h : ∀ x ∈ l, isI64 x) : -(9223372036854775808 * (l.length : Int)) ≤ sumL l ∧ sumL l ≤ 9223372036854775808 * (l.length : Int) := by
  induction l with
  | nil => simp [sumL]
  | cons x l ih =>
    have h1 := ih (fun y hy => h y (List.mem_cons_of_mem _ hy))
    have h2 := h x List.mem_cons_self
    unfold isI64 at h2
    have h3 : sumL (x :: l) = x + sumL l := by
      show l.foldl (· + ·) (0 + x) = _
      rw [sum_from]
      omega
    rw [h3]
    simp only [List.length_cons]
    omega
theorem out_yes (S : Int) (h : isI64 S) : wrap64 (loS S) = S ∧ hiS S = IntKind.u64.wrap (S / 9223372036854775808) := by
  simp only [IntKind.wrap_u64]
  unfold isI64 at h
  unfold wrap64 loS hiS
  omega
theorem out_no (S : Int) (h : ¬ isI64 S) (h1 : -162259276829213363391578010288128 ≤ S) (h2 : S ≤ 162259276829213363391578010288128) : ¬ hiS S = IntKind.u64.wrap (wrap64 (loS S) / 9223372036854775808) := by
  simp only [IntKind.wrap_u64]
  unfold isI64 at h
  unfold wrap64 loS hiS
  by_cases c : S % 18446744073709551616 < 9223372036854775808
  · rw [show ((S % 18446744073709551616 + 9223372036854775808) % 18446744073709551616 - 9223372036854775808) / 9223372036854775808 = 0 by omega]
    omega
  · rw [show ((S % 18446744073709551616 + 9223372036854775808) % 18446744073709551616 - 9223372036854775808) / 9223372036854775808 = -1 by omega]
    omega

/-- The two halves in their place. -/
def Halves (W : World) (B : Nat) (S : Int) : Prop := W.cell? ⟨B, 0, none⟩ = some (.int .u64 (loS S)) ∧ W.cell? ⟨B, 1, none⟩ = some (.int .u64 (hiS S)) ∧ W.frozen? ⟨B, 0, none⟩ = false ∧ W.frozen? ⟨B, 1, none⟩ = false
theorem halves_step (B : Nat) (S n : Int) (hn : isI64 n) (w : World) (h : Halves w B S) :
    Calls Tryd.prog 31 #[.pointer (some ⟨B, 0, none⟩), .int .i64 n] w fun e w' => e = .returned (.tuple #[]) ∧ Halves w' B (S + n) ∧ Below B w w' := by
  refine (halves_add B (loS S) (hiS S) n w (loS_range S) (hiS_range S) (carry_range S n) h.1 h.2.1 h.2.2.1 h.2.2.2).mono ?_
  rintro e w' ⟨rfl, h0, h1, f0, f1, hb⟩
  rw [lo_step] at h0
  rw [hi_step S n hn] at h1
  exact ⟨rfl, ⟨h0, h1, f0, f1⟩, hb⟩

set_option maxHeartbeats 1000000 in
set_option maxRecDepth 100000 in
theorem number_All.calls (A0 : Option Addr) (c0 : Nat) (l0 : List Int) (r1 : Int) (r2 : Int) (w : World) (hr0 : Kd.C (Kd.int .i64) w A0 l0.length l0) (hc0 : l0.length ≤ c0) (h : number_All.f l0 = some (r1, r2)) :
    Calls Tryd.prog 17 #[.slice A0 l0.length c0] w fun e w' => e = .returned (.tuple #[.int .i64 r1, .int .i64 r2]) ∧ Below w.heap.size w w' := by
  unfold number_All.f at h
  by_cases hcond : (∀ x ∈ l0, isI64 x) ∧ l0.length ≤ 17592186044416
  case neg => rw [if_neg hcond] at h; cases h
  rw [if_pos hcond] at h
  replace h := Option.some.inj h
  obtain ⟨hall, hlen⟩ := hcond
  have hsb := sum_bound l0 hall
  have HR0 := Aside0.mk hr0
  have HA := Aside0.mk hall
  have H := Aside0.mk h
  have HC := Aside0.mk hc0
  have HS := Aside0.mk hsb
  clear hr0 hall h hc0 hsb
  go_enter Tryd.func17, Tryd.ntmps17
  go_wp2
  go_loopg [10] (l0.length + 1) (fun g v10 wr => ∃ k : Nat, k ≤ l0.length ∧ Aside0 (k + g = l0.length + 1) ∧ v10 = .int .i64 k ∧ Aside0 (Halves wr w.heap.size (sumL (l0.take k))) ∧ Aside0 (Below w.heap.size w wr))
  case atStart => exact ⟨0, by omega, ⟨by omega⟩, rfl, ⟨by unfold Halves; refine ⟨?_, ?_, ?_, ?_⟩ <;> (go_simp; try rfl)⟩, ⟨(Below.refl _ _).alloc (Nat.le_refl _) _⟩⟩
  case round =>
    obtain ⟨k, hk, hg, rfl, hh, hB⟩ := hrel
    by_cases c1 : k < l0.length
    · have hx := HA.out (rd l0 k) (by unfold rd; simp [List.getD, c1])
      have hs := sum_take l0 k c1
      have hr1 := Kd.C_below HR0.out hB.out
      obtain ⟨ad, e1, hcell⟩ := Kd.at_int hr1 (k : Int) (by omega) (by omega)
      simp only [Int.toNat_natCast] at hcell
      have HX := Aside0.mk hx
      have HSS := Aside0.mk hs
      clear hx hs hr1
      cases e1
      go_wp2_with fail
      refine (halves_step w.heap.size _ _ HX.out _ hh.out).mono ?_
      rintro e w2 ⟨rfl, hh2, hb2⟩
      rw [← HSS.out] at hh2
      have HH := Aside0.mk hh2
      have HB2 := Aside0.mk hb2
      clear hh2 hb2
      go_wp2
      go_roundg (gk - 1)
      case measure => have := hg.out; omega
      case rel => exact ⟨k + 1, by omega, ⟨by have := hg.out; omega⟩, by go_num, HH, ⟨hB.out.trans HB2.out⟩⟩
    · have ek : l0.take k = l0 := List.take_of_length_le (by omega)
      have hh1 := hh.out
      rw [ek] at hh1
      obtain ⟨hc0, hc1, _, _⟩ := hh1
      have hs := HS.out
      have hh2 := H.out
      clear hh ek
      by_cases c2 : isI64 (sumL l0)
      · rw [if_pos c2] at hh2
        simp only [Prod.mk.injEq] at hh2
        obtain ⟨rfl, rfl⟩ := hh2
        have ho := out_yes _ c2
        have t1 : (hiS (sumL l0) == IntKind.u64.wrap (wrap64 (loS (sumL l0)) / 9223372036854775808)) = true := by
          rw [ho.1]
          exact beq_iff_eq.2 ho.2
        have HO := Aside0.mk ho.1
        clear ho hs c2
        go_wp2
        rw [HO.out]
        go_ret2
        exact ⟨by first | rfl | (simp; done), hB.out⟩
      · rw [if_neg c2] at hh2
        simp only [Prod.mk.injEq] at hh2
        obtain ⟨rfl, rfl⟩ := hh2
        have t1 : (hiS (sumL l0) == IntKind.u64.wrap (wrap64 (loS (sumL l0)) / 9223372036854775808)) = false := beq_eq_false_iff_ne.2 (out_no _ c2 (by omega) (by omega))
        clear hs c2
        go_wp2
        go_ret2
        exact ⟨rfl, hB.out⟩
end Go.Proofs.YtnefpmgaklegnaaDoor.P
