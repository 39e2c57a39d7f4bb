/- store.Hash: the hash of bytes, folded over an iterator of bytes. -/
import Derived.Test.YtapnegdigghomaaRF
import Derived.Test.YtapnegdigghomaaWMore
import Derived.Test.YtapnegdigghomaaProg
import Derived.IntWalk
import Derived.Test.YtapnegdigghomaaPx0
namespace Go.Proofs.Ytapnegdigghomaa.P
open Go.RowKit Go.Proofs.YtapnegdigghomaaW.PrintWords
set_option linter.unusedVariables false
set_option linter.unusedSimpArgs false
attribute [local go_sem] Oper.semAt_some
def hstep (h c : Int) : Int := IntKind.u64.wrap (Go.bits .xor .u64 h (IntKind.u64.wrap c) * 1099511628211)
def hash0 (sd : Int) : Int := Go.bits .xor .u64 14695981039346656037 (IntKind.u64.wrap sd)
def hashI (sd : Int) (l : List Int) : Int := l.foldl hstep (hash0 sd)
set_option maxRecDepth 100000 in
set_option maxHeartbeats 2000000 in
theorem vals1_in (l Bb B0 : Nat) (A0 : Option Addr) (c0 : Nat) (bs : List Int) (hc0 : bs.length ≤ c0) (hl : bs.length ≤ 140737488355328) (J Jx : List Int → World → Prop)
    (hY : ∀ pre x W1, J pre W1 → (pre ++ [x]) <+: bs → YieldAt Fence.wide 0 Try.prog l #[.int .u8 x] W1 fun e W' =>
      (e = .returned (.bool true) ∧ J (pre ++ [x]) W' ∧ Below B0 W1 W') ∨ (e = .returned (.bool false) ∧ Jx (pre ++ [x]) W'))
    (wa W : World) (hr : Kd.C (Kd.int .u8) wa A0 bs.length bs) (hB : Below B0 wa W) (hB0 : wa.heap.size ≤ B0) (hc : W.cell? ⟨Bb, 0, none⟩ = some (.slice A0 bs.length c0)) (h0 : J [] W) :
    CallsIn Fence.wide 0 Try.prog 39 #[.func (.yield l) #[] #[], .pointer (some ⟨Bb, 0, none⟩)] W (IterEnds (fun xs => xs = bs) (fun pre => pre <+: bs) J Jx) := by
  have HY := Aside0.mk hY
  have HR := Aside0.mk hr
  have H0 := Aside0.mk h0
  have HB := Aside0.mk hB
  clear hY hr h0 hB
  refine callsIn_of_wp Try.func39 rfl trivial ?_ rfl
  simp only [Try.ntmps39, List.size_toArray, List.length_cons, List.length_nil, Nat.reduceAdd, Nat.reduceSub, Array.replicate_succ, Array.replicate_zero, List.push_toArray, List.append_toArray, List.nil_append, List.cons_append]
  gi_wp2
  gi_loopw [7] (fun v7 wr => ∃ k : Nat, v7 = .int .i64 k ∧ k ≤ bs.length ∧ Aside0 (J (bs.take k) wr) ∧ Aside0 (Below B0 W wr))
    (fun v7 _ => bs.length - (intOf v7).toNat)
  case atStart => exact ⟨0, rfl, Nat.zero_le _, H0, ⟨Below.refl _ _⟩⟩
  case round =>
    obtain ⟨k, rfl, hk, hj, hB2⟩ := hrel
    by_cases c : k < bs.length
    · have hcc := Kd.C_below HR.out ((HB.out.trans hB2.out).mono hB0)
      obtain ⟨ad, e1, hx⟩ := Kd.at_int hcc k (by omega) (by omega)
      cases e1
      simp only [Int.toNat_natCast] at hx
      have ht : bs.take (k + 1) = bs.take k ++ [rd bs k] := by
        rw [List.take_succ_eq_append_getElem c]
        simp [rd, List.getD, c]
      have hp : (bs.take k ++ [rd bs k]) <+: bs := by
        rw [← ht]
        exact List.take_prefix _ _
      obtain ⟨fn, tmps, assign, body, hy, hR⟩ := HY.out (bs.take k) (rd bs k) wr hj.out hp
      have HT := Aside0.mk ht
      have HP := Aside0.mk hp
      clear hcc ht hp
      gi_wp2
      refine ⟨rfl, hR.mono ?_⟩
      rintro e W3 (⟨rfl, hJ3, hk3⟩ | ⟨rfl, hJx3⟩)
      · rw [← HT.out] at hJ3
        have HJ3 := Aside0.mk hJ3
        have HB3 := Aside0.mk (hB2.out.trans hk3)
        clear hJ3 hk3
        gi_wp2
        go_roundw
        case rel => exact ⟨k + 1, by go_num, by omega, HJ3, HB3⟩
        case measure => simp [intOf]; omega
      · gi_wp2
        refine bodyPost_ret (results_none rfl _ _ _) rfl ?_
        exact ⟨⟨_, rfl⟩, .inr ⟨_, HP.out, hJx3⟩⟩
    · have e2 : bs.take k = bs := List.take_of_length_le (by omega)
      have E2 := Aside0.mk e2
      clear e2
      gi_wp2
      go_end0
      exact ⟨⟨_, rfl⟩, .inl ⟨_, E2.out, hj.out⟩⟩
theorem vals1_seq (Bb B0 : Nat) (A0 : Option Addr) (c0 : Nat) (bs : List Int) (hc0 : bs.length ≤ c0) (hl : bs.length ≤ 140737488355328) (wa w : World) (hr : Kd.C (Kd.int .u8) wa A0 bs.length bs) (hB : Below B0 wa w) (hB0 : wa.heap.size ≤ B0) (hBw : B0 ≤ w.heap.size) (hBb : Bb < w.heap.size) (hc : w.cell? ⟨Bb, 0, none⟩ = some (.slice A0 bs.length c0)) :
    SeqT Try.prog 39 #[.pointer (some ⟨Bb, 0, none⟩)] (fun x : Int => #[.int .u8 x]) (Below B0) (fun A B => B = A) (fun pre x => (pre ++ [x]) <+: bs) (fun xs => xs = bs) (fun pre => pre <+: bs) w :=
  fun l J Jx W hW _ _ hY h0 => vals1_in l Bb B0 A0 c0 bs hc0 hl J Jx hY wa W hr (hB.trans (hW.mono hBw)) hB0 ((hW.cell (p := ⟨Bb, 0, none⟩) hBb).trans hc) h0
theorem values_in (A : Option Addr) (n c : Nat) (w : World) : Calls Try.prog 31 #[.slice A n c] w fun e w' =>
    e = .returned (.func (.func 39) #[] #[.pointer (some ⟨w.heap.size, 0, none⟩)]) ∧ w' = w.alloc (.cells #[.slice A n c] 22) := by
  go_enter Try.func31, Try.ntmps31
  go_wp2
  go_ret
  exact ⟨rfl, rfl⟩
theorem hash1 (h c : Int) (w : World) : Calls Try.prog 32 #[.int .u64 h, .int .u8 c] w fun e w' => e = .returned (.int .u64 (hstep h c)) ∧ w' = w := by
  go_enter Try.func32, Try.ntmps32
  go_wp2
  go_ret
  exact ⟨rfl, rfl⟩
/-- The two boxes of a fold. -/
def FoldI (w : World) (h0 : Int) (pre : List Int) (W : World) : Prop :=
  Boxed W w.heap.size 32 (.int .u64 (pre.foldl hstep h0)) ∧ Boxed W (w.heap.size + 1) 62 (.func (.func 32) #[] #[]) ∧ Below w.heap.size w W
set_option maxRecDepth 100000 in
set_option maxHeartbeats 1000000 in
theorem fold_in (h0 : Int) (Bb : Nat) (A0 : Option Addr) (c0 : Nat) (bs : List Int) (hc0 : bs.length ≤ c0) (hl : bs.length ≤ 140737488355328) (w : World) (hr : Kd.C (Kd.int .u8) w A0 bs.length bs) (hBb : Bb < w.heap.size) (hc : w.cell? ⟨Bb, 0, none⟩ = some (.slice A0 bs.length c0)) :
    CallsIn Fence.wide 0 Try.prog 30 #[.int .u64 h0, .func (.func 39) #[] #[.pointer (some ⟨Bb, 0, none⟩)], .func (.func 32) #[] #[]] w fun e w' =>
      e = .returned (.int .u64 (bs.foldl hstep h0)) ∧ Below w.heap.size w w' := by
  have HR := Aside0.mk hr
  have HC := Aside0.mk hc
  clear hr hc
  refine callsIn_of_wp_marks Try.func30 rfl trivial ?_ rfl
  simp only [Try.ntmps30, List.size_toArray, List.length_cons, List.length_nil, Nat.reduceAdd, Nat.reduceSub, Array.replicate_succ, Array.replicate_zero, List.push_toArray, List.append_toArray, List.nil_append, List.cons_append]
  gi_wp2_with fail
  have bH := (Boxed.new w 32 (.int .u64 h0)).alloc (.cells #[.func (.func 32) #[] #[]] 62)
  have bF := Boxed.new (w.alloc (.cells #[.int .u64 h0] 32)) 62 (.func (.func 32) #[] #[])
  rw [World.size_alloc] at bF
  obtain ⟨W0, hW0⟩ : ∃ W0, (w.alloc (.cells #[.int .u64 h0] 32)).alloc (.cells #[.func (.func 32) #[] #[]] 62) = W0 := ⟨_, rfl⟩
  have hB0 : Below w.heap.size w W0 := by rw [← hW0]; exact ((Below.refl _ w).alloc (Nat.le_refl _) _).alloc (by simp) _
  have hs0 : W0.heap.size = w.heap.size + 1 + 1 := by rw [← hW0]; simp
  rw [hW0] at bH bF ⊢
  clear hW0
  refine range_law (encs := fun x : Int => #[.int .u8 x]) rfl (enters_of Try.func39 (by kernel_rfl) rfl) (vals1_seq Bb w.heap.size A0 c0 bs hc0 hl w W0 HR.out hB0 (Nat.le_refl _) hB0.size (Nat.lt_of_lt_of_le hBb hB0.size) ((hB0.cell (p := ⟨Bb, 0, none⟩) hBb).trans HC.out)) (Below.refl _ _)
      (fun h k => h.trans k) (fun W l o o' hl ho h1 h2 => belowK_b (w := w) (Nat.le_refl _) W l o o' (by omega) ho h1 h2) (fun A B h k o hk ho => by rw [h]; exact ho) (fun _ => rfl)
      (FoldI w h0) (fun _ _ _ => False)
      (OwnFrom.and (Own.from (boxed_own w.heap.size 32 (fun pre : List Int => .int .u64 (pre.foldl hstep h0))) _) (OwnFrom.and (Own.from (boxed_own (w.heap.size + 1) 62 (fun _ => .func (.func 32) #[] #[])) _) (ownFrom_below (Nat.le_refl _) (by omega))))
      (fun _ _ _ _ _ hs _ _ => hs) (fun _ _ _ h e => by rw [e]; exact h) (fun _ _ _ _ h _ => h) ⟨bH, bF, hB0⟩ ?_ ?_ ?_ ?_ ?_
  rotate_left 1
  · intro l x W K hK
    gi_wp2
    exact hK
  · rintro l pre x W ⟨hH, hF, hB⟩ hpx
    have q0 := hH.cell
    have q1 := hF.cell
    have f0 := hH.frozen
    have HH := Aside0.mk hH
    have HF := Aside0.mk hF
    have HB := Aside0.mk hB
    clear hH hF hB
    gi_wp2_with fail
    refine ⟨trivial, rfl, (CallsIn.inRound l (callsIn_wide.2 (hash1 _ x W))).mono ?_⟩
    rintro e W3 ⟨rfl, rfl⟩
    gi_wp2
    refine ⟨((KeepsOthers.setCell _ _ _).from _), (Below.refl _ _).setCell (p := ⟨w.heap.size, 0, none⟩) (Nat.le_refl _) _, ?_, ?_, ?_⟩
    · rw [List.foldl_append]
      exact HH.out.set _
    · exact blk_far HF.out (by simp) _
    · exact HB.out.setCell (p := ⟨w.heap.size, 0, none⟩) (Nat.le_refl _) _
  · rintro D xs W hD rfl ⟨hH, hF, hB⟩ hK
    have q0 := hH.cell
    have HB := Aside0.mk hB
    have HK := Aside0.mk hK
    clear hH hF hB hK
    gi_wp2
    refine ⟨by simp, .inl ⟨_, _, rfl, run_takeDeferred HK.out, ?_⟩⟩
    exact ⟨_, results_tmp rfl _ _ _, rfl, HB.out.trans (belowK_b (w := w) (Nat.le_refl _) W D _ _ (by omega) HK.out rfl rfl)⟩
  · intro D c pre W _ _ h _
    exact h.elim
theorem Hash_calls (sd : Int) (A0 : Option Addr) (c0 : Nat) (bs : List Int) (hc0 : bs.length ≤ c0) (hl : bs.length ≤ 140737488355328) (w : World) (hr : Kd.C (Kd.int .u8) w A0 bs.length bs) :
    Calls Try.prog 13 #[.int .i64 sd, .slice A0 bs.length c0] w fun e w' => e = .returned (.int .u64 (hashI sd bs)) ∧ Below w.heap.size w w' := by
  have hb := (Below.refl w.heap.size w).alloc (Nat.le_refl _) (.cells #[.slice A0 bs.length c0] 22)
  have HF := Aside0.mk (fold_in (hash0 sd) w.heap.size A0 c0 bs hc0 hl (w.alloc (.cells #[.slice A0 bs.length c0] 22)) (Kd.C_below hr hb) (by simp) (Boxed.new w _ _).cell)
  have HB := Aside0.mk hb
  clear hb hr hc0 hl
  go_enter Try.func13, Try.ntmps13
  go_wp2_with fail
  refine (values_in A0 bs.length c0 w).mono ?_
  rintro e w1 ⟨rfl, rfl⟩
  go_wp2_with fail
  refine (callsIn_wide.1 HF.out).mono ?_
  rintro e w2 ⟨rfl, hb2⟩
  go_wp2
  go_ret
  exact ⟨rfl, HB.out.trans (hb2.mono (by simp))⟩
end Go.Proofs.Ytapnegdigghomaa.P
