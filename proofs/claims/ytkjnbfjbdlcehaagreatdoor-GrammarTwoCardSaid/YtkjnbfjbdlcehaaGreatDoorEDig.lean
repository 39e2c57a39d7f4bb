/- number.digits: the iterator that hands on the decimal digits of a number, the last one first. -/
import Derived.Test.YtkjnbfjbdlcehaaGreatDoorRF
import Derived.Test.YtkjnbfjbdlcehaaGreatDoorPx0
namespace Go.Proofs.YtkjnbfjbdlcehaaGreatDoor.P
open Go.RowKit Go.Proofs.YtkjnbfjbdlcehaaGreatDoorW.PrintWords
set_option linter.unusedVariables false
set_option linter.unusedSimpArgs false
attribute [local go_sem] Oper.semAt_some

/-- The digits of n as bytes, the last one first (f: at most so many). -/
def isI64 (x : Int) : Prop := -9223372036854775808 ≤ x ∧ x ≤ 9223372036854775807
instance (x : Int) : Decidable (isI64 x) := inferInstanceAs (Decidable (_ ∧ _))
def digs : Nat → Nat → List Int
  | 0, _ => []
  | f + 1, n => (48 + (n : Int) % 10) :: (if n / 10 = 0 then [] else digs f (n / 10))

/-- How much is still to come, read off the memory. -/
def digM (Bn : Nat) (m : Value) (wr : World) : Nat := match m, wr.cell? ⟨Bn, 0, none⟩ with
  | .bool true, some (.int _ x) => x.toNat + 1
  | _, _ => 0
set_option maxRecDepth 100000 in
set_option maxHeartbeats 2000000 in
theorem digits1_in (l Bn f n : Nat) (hfn : n < 10 ^ f) (hf : f ≤ 20) (hf0 : 0 < f) (J Jx : List Int → World → Prop) (hJ : ∀ s (A : World) v, J s A → J s (A.setCell ⟨Bn, 0, none⟩ v))
    (hY : ∀ pre x W1, J pre W1 → (pre ++ [x]) <+: digs f n → YieldAt Fence.wide 0 Tryz.prog l #[.int .u8 x] W1 fun e W' =>
      (e = .returned (.bool true) ∧ J (pre ++ [x]) W' ∧ W'.heap[Bn]? = W1.heap[Bn]?) ∨ (e = .returned (.bool false) ∧ Jx (pre ++ [x]) W'))
    (W : World) (hc : W.cell? ⟨Bn, 0, none⟩ = some (.int .u64 n)) (hz : W.frozen? ⟨Bn, 0, none⟩ = false) (h0 : J [] W) :
    CallsIn Fence.wide 0 Tryz.prog 113 #[.func (.yield l) #[] #[], .pointer (some ⟨Bn, 0, none⟩)] W (IterEnds (fun xs => xs = digs f n) (fun pre => pre <+: digs f n) J Jx) := by
  refine callsIn_of_wp Tryz.func113 rfl trivial ?_ rfl
  simp only [Tryz.ntmps113, List.size_toArray, List.length_cons, List.length_nil, Nat.reduceAdd, Nat.reduceSub, Array.replicate_succ, Array.replicate_zero, List.push_toArray, List.append_toArray, List.nil_append, List.cons_append]
  gi_wp2
  gi_loopw [3] (fun m wr => ∃ (pre : List Int) (b : Bool) (g k : Nat), m = .bool b ∧ Aside0 (b = true → digs f n = pre ++ digs (g + 1) k ∧ k < 10 ^ (g + 1)) ∧ Aside0 (b = false → digs f n = pre) ∧ Aside0 (J pre wr) ∧ wr.cell? ⟨Bn, 0, none⟩ = some (.int .u64 (k : Int)) ∧ wr.frozen? ⟨Bn, 0, none⟩ = false ∧ Aside0 (g < 20))
    (fun m wr => digM Bn m wr)
  case atStart =>
    obtain ⟨g, rfl⟩ : ∃ g, f = g + 1 := ⟨f - 1, by omega⟩
    exact ⟨[], true, g, n, rfl, ⟨fun _ => ⟨rfl, hfn⟩⟩, ⟨fun h => by cases h⟩, ⟨h0⟩, hc, hz, ⟨by omega⟩⟩
  case round =>
    obtain ⟨pre, b, g, k, rfl, h1, h2, hj, hcell, hfro, hg⟩ := hrel
    cases b with
    | false =>
      gi_wp2
      go_end0
      exact ⟨⟨_, rfl⟩, .inl ⟨_, (h2.out (by simp)).symm, hj.out⟩⟩
    | true =>
      obtain ⟨hd, hk⟩ := h1.out (by simp)
      have hkb : k < 100000000000000000000 := by
        have : 10 ^ (g + 1) ≤ 10 ^ 20 := Nat.pow_le_pow_right (by omega) (by have := hg.out; omega)
        omega
      have hstep : digs (g + 1) k = (48 + (k : Int) % 10) :: (if k / 10 = 0 then [] else digs g (k / 10)) := rfl
      have hpre : (pre ++ [48 + (k : Int) % 10]) <+: digs f n := by rw [hd, hstep]; exact ⟨if k / 10 = 0 then [] else digs g (k / 10), List.append_assoc _ _ _⟩
      obtain ⟨fn, tmps, assign, body, hy, hR⟩ := hY pre (48 + (k : Int) % 10) wr hj.out hpre
      have HY := Aside0.mk hd
      have HS := Aside0.mk hstep
      have HP := Aside0.mk hpre
      have HK := Aside0.mk hk
      have HJ := Aside0.mk hJ
      clear hd hstep hpre hk hY hJ h1 h2
      gi_wp2
      refine ⟨rfl, hR.mono ?_⟩
      rintro e W3 (⟨rfl, hJ3, hk3⟩ | ⟨rfl, hJx3⟩)
      · have hc3 : W3.cell? ⟨Bn, 0, none⟩ = some (.int .u64 (k : Int)) := (World.cell?_of_block (a := ⟨Bn, 0, none⟩) hk3).trans hcell
        have hz3 : W3.frozen? ⟨Bn, 0, none⟩ = false := (World.frozen?_of_block (a := ⟨Bn, 0, none⟩) hk3).trans hfro
        have H3 := Aside0.mk hJ3
        clear hJ3 hk3
        gi_wp2
        have hm : digM Bn (.bool true) wr = k + 1 := by
          unfold digM
          rw [hcell]
          simp
        have hset : ∀ v : Value, v.oneCell' = true → (W3.setCell ⟨Bn, 0, none⟩ v).cell? ⟨Bn, 0, none⟩ = some v := fun v hv => World.cell?_setCell_same' _ _ _ (by rw [hc3]; rfl)
        by_cases hz : k / 10 = 0
        · have e1 : decide (0 < (k : Int) / 10) = false := decide_eq_false (by omega)
          rw [e1]
          refine ⟨⟨pre ++ [48 + (k : Int) % 10], false, g, k / 10, rfl, ⟨fun h => by cases h⟩, ⟨fun _ => ?_⟩, ⟨HJ.out _ _ _ H3.out⟩, ?_, ?_, hg⟩, ?_⟩
          · have := HY.out
            rw [HS.out, if_pos hz] at this
            exact this
          · rw [hset _ rfl]; simp
          · rw [World.frozen?_setCell]; exact hz3
          · rw [hm]
            simp [digM]
        · have e1 : decide (0 < (k : Int) / 10) = true := decide_eq_true (by omega)
          rw [e1]
          obtain ⟨g', rfl⟩ : ∃ g', g = g' + 1 := by
            cases g with
            | zero => have := HK.out; simp at this; omega
            | succ g' => exact ⟨g', rfl⟩
          have hk2 : k / 10 < 10 ^ (g' + 1) := by
            have := HK.out
            rw [Nat.pow_succ] at this
            exact Nat.div_lt_of_lt_mul (by rw [Nat.mul_comm]; exact this)
          refine ⟨⟨pre ++ [48 + (k : Int) % 10], true, g', k / 10, rfl, ⟨fun _ => ⟨?_, hk2⟩⟩, ⟨fun h => by cases h⟩, ⟨HJ.out _ _ _ H3.out⟩, ?_, ?_, ⟨by have := hg.out; omega⟩⟩, ?_⟩
          · have := HY.out
            rw [HS.out, if_neg hz] at this
            rw [this, List.append_assoc]
            rfl
          · rw [hset _ rfl]; simp
          · rw [World.frozen?_setCell]; exact hz3
          · rw [hm]
            unfold digM
            rw [hset _ rfl]
            simp
            omega
      · gi_wp2
        refine bodyPost_ret (results_none rfl _ _ _) rfl ?_
        exact ⟨⟨_, rfl⟩, .inr ⟨_, HP.out, hJx3⟩⟩

set_option maxHeartbeats 1000000 in
/-- number.digits: the number is boxed; the function value captures the box. -/
theorem digits_in (N : Int) (w : World) :
    CallsIn Fence.wide 0 Tryz.prog 93 #[.int .u64 N] w fun e w' => e = .returned (.func (.func 113) #[] #[.pointer (some ⟨w.heap.size, 0, none⟩)]) ∧ w.alloc (.cells #[.int .u64 N] 143) = w' := by
  refine callsIn_of_wp Tryz.func93 rfl trivial ?_ rfl
  simp only [Tryz.ntmps93, List.size_toArray, List.length_cons, List.length_nil, Nat.reduceAdd, Nat.reduceSub, Array.replicate_succ, Array.replicate_zero, List.push_toArray, List.append_toArray, List.nil_append, List.cons_append]
  gi_wp2
  go_ret
  exact ⟨rfl, rfl⟩
/-- The iterator's contract. -/
theorem digits_seq (Bn f n : Nat) (hfn : n < 10 ^ f) (hf : f ≤ 20) (hf0 : 0 < f) (w : World) (hBw : Bn < w.heap.size) (hc : w.cell? ⟨Bn, 0, none⟩ = some (.int .u64 n)) (hz : w.frozen? ⟨Bn, 0, none⟩ = false) :
    SeqT Tryz.prog 113 #[.pointer (some ⟨Bn, 0, none⟩)] (fun x : Int => #[.int .u8 x]) (fun A B => B.heap[Bn]? = A.heap[Bn]?) (fun A B => ∃ v, B = A.setCell ⟨Bn, 0, none⟩ v) (fun pre x => (pre ++ [x]) <+: digs f n) (fun xs => xs = digs f n) (fun pre => pre <+: digs f n) w :=
  fun l J Jx W hW hJ _ hY h0 => digits1_in l Bn f n hfn hf hf0 J Jx (fun s A v h => hJ s A _ h ⟨v, rfl⟩) hY W ((hW.cell (p := ⟨Bn, 0, none⟩) hBw).trans hc) ((hW.frozen (p := ⟨Bn, 0, none⟩) hBw).trans hz) h0
end Go.Proofs.YtkjnbfjbdlcehaaGreatDoor.P
