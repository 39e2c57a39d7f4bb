/- token.cut: the iterator over a text's lines. -/
import Derived.Test.YthhdjbpmkfnhjaaDoorETokIdx
namespace Go.Proofs.YthhdjbpmkfnhjaaDoor.P
open Go.RowKit Go.Proofs.YthhdjbpmkfnhjaaDoorW.PrintWords
set_option linter.unusedVariables false
set_option linter.unusedSimpArgs false
attribute [local go_sem] Oper.semAt_some

theorem cutF_nil (f p : Nat) : cutF f p [] = [] := by
  cases f <;> rfl
theorem cutF_cons (f p : Nat) (l : List Int) (h : l ≠ []) : cutF (f + 1) p l = (p, lineOf l) :: cutF f (p + (lineOf l).length + 1) (l.drop ((lineOf l).length + 1)) := by
  show (if l.isEmpty = true then [] else _) = _
  rw [if_neg (by simpa using h)]
/-- The two blocks that the iterator reads are kept. -/
def Two (B1 B2 : Nat) (A B : World) : Prop := B.heap[B1]? = A.heap[B1]? ∧ B.heap[B2]? = A.heap[B2]?
theorem Two.trans {B1 B2 : Nat} {A B C : World} (h : Two B1 B2 A B) (k : Two B1 B2 B C) : Two B1 B2 A C := ⟨k.1.trans h.1, k.2.trans h.2⟩
theorem Two.below {B1 B2 : Nat} {A B C : World} (h : Two B1 B2 A B) (l1 : B1 < A.heap.size) (l2 : B2 < A.heap.size) (hb : Below B.heap.size B C) : Two B1 B2 A C :=
  ⟨(hb.block B1 (by have := h.1.trans (Array.getElem?_eq_getElem l1); exact (Array.getElem?_eq_some_iff.1 this).1)).trans h.1, (hb.block B2 (by have := h.2.trans (Array.getElem?_eq_getElem l2); exact (Array.getElem?_eq_some_iff.1 this).1)).trans h.2⟩
/-- What a line's value is. -/
def lineV (g o cap : Nat) (x : Nat × List Int) : Array Value := #[.int .i64 (x.1 : Int), .slice (some ⟨g, o + x.1, none⟩) x.2.length (cap - x.1)]
set_option maxRecDepth 100000 in
set_option maxHeartbeats 2000000 in
theorem cut1_in (l Bb g o cap : Nat) (bs : List Int) (hu : isU8 bs = true) (hlen : bs.length ≤ 67108864) (hcap : bs.length ≤ cap) (J Jx : List (Nat × List Int) → World → Prop)
    (hJ : ∀ s A B, J s A → Below A.heap.size A B → J s B)
    (hY : ∀ pre x W1, J pre W1 → (pre ++ [x]) <+: cutF (bs.length + 1) 0 bs → YieldAt Fence.wide 0 Tryd.prog l (lineV g o cap x) W1 fun e W' =>
      (e = .returned (.bool true) ∧ J (pre ++ [x]) W' ∧ Two Bb g W1 W') ∨ (e = .returned (.bool false) ∧ Jx (pre ++ [x]) W'))
    (W : World) (hc : W.cell? ⟨Bb, 0, none⟩ = some (.slice (some ⟨g, o, none⟩) bs.length cap)) (hcs : ∀ i, i < bs.length → W.cell? ⟨g, o + i, none⟩ = some (.int .u8 (bs.getD i 0))) (hg : g < W.heap.size) (h0 : J [] W) :
    CallsIn Fence.wide 0 Tryd.prog 29 #[.func (.yield l) #[] #[], .pointer (some ⟨Bb, 0, none⟩)] W (IterEnds (fun xs => xs = cutF (bs.length + 1) 0 bs) (fun pre => pre <+: cutF (bs.length + 1) 0 bs) J Jx) := by
  have hBb : Bb < W.heap.size := World.block_lt_of_cell? W _ hc
  have HJ := Aside0.mk hJ
  have HY := Aside0.mk hY
  have HU := Aside0.mk hu
  have HCS := Aside0.mk hcs
  have HC := Aside0.mk hc
  clear hJ hY hu hcs hc
  refine callsIn_of_wp Tryd.func29 rfl trivial ?_ rfl
  simp only [Tryd.ntmps29, List.size_toArray, List.length_cons, List.length_nil, Nat.reduceAdd, Nat.reduceSub, Array.replicate_succ, Array.replicate_zero, List.push_toArray, List.append_toArray, List.nil_append, List.cons_append]
  gi_wp2
  gi_loopw [3] (fun v3 wr => ∃ (pre : List (Nat × List Int)) (k f : Nat), v3 = .int .i64 k ∧ Aside0 (cutF (bs.length + 1) 0 bs = pre ++ cutF f k (bs.drop k)) ∧ Aside0 (bs.length + 1 ≤ k + f ∧ k ≤ bs.length + 1) ∧ Aside0 (J pre wr) ∧ Aside0 (Two Bb g W wr))
    (fun v3 _ => bs.length + 1 - (intOf v3).toNat)
  case atStart => exact ⟨[], 0, bs.length + 1, rfl, ⟨by simp⟩, ⟨by omega⟩, ⟨h0⟩, ⟨rfl, rfl⟩⟩
  case round =>
    obtain ⟨pre, k, f, rfl, hcut, hf, hj, hB⟩ := hrel
    have hcw : wr.cell? ⟨Bb, 0, none⟩ = some (.slice (some ⟨g, o, none⟩) bs.length cap) := (World.cell?_of_block (a := ⟨Bb, 0, none⟩) hB.out.1).trans HC.out
    by_cases c : k < bs.length
    · obtain ⟨f, rfl⟩ : ∃ m, f = m + 1 := ⟨f - 1, by have := hf.out; omega⟩
      have hne : bs.drop k ≠ [] := by
        intro e
        have := congrArg List.length e
        simp at this
        omega
      have e1 := cutF_cons f k (bs.drop k) hne
      obtain ⟨L, hL⟩ : ∃ L, Aside0 (lineOf (bs.drop k) = L) := ⟨_, ⟨rfl⟩⟩
      rw [hL.out, List.drop_drop] at e1
      have hpre : (pre ++ [(k, L)]) <+: cutF (bs.length + 1) 0 bs := by
        rw [hcut.out, e1]
        exact ⟨_, List.append_assoc _ _ _⟩
      have hLl : L.length ≤ bs.length - k := by
        have := lineOf_le (bs.drop k)
        rw [hL.out, List.length_drop] at this
        exact this
      have hcon := fun (W2 : World) (b2 : Nat) (h : Two Bb g W W2) (h2 : W2.cell? ⟨b2, 0, none⟩ = some (.int .u8 10)) => bCut1 g (o + k) (cap - k) b2 (bs.drop k) (isU8_drop HU.out k) (by simp; omega) (by simp; omega) W2 (fun i hi => by
        have hi' : i < bs.length - k := by simpa using hi
        have := (World.cell?_of_block (a := ⟨g, o + (k + i), none⟩) h.2).trans (HCS.out (k + i) (by omega))
        rw [show o + k + i = o + (k + i) by omega, this]
        simp [List.getD]) h2
      rw [hL.out, List.length_drop] at hcon
      have HCON := Aside0.mk hcon
      have HE := Aside0.mk e1
      have HP := Aside0.mk hpre
      clear hcon e1 hpre hne
      have p1 : (k : Int) < (bs.length : Int) := by omega
      have p2 : (0 : Int) ≤ (k : Int) := by omega
      have q1 := eq_true p1
      have q2 : decide ((k : Int) < (bs.length : Int)) = true := decide_eq_true p1
      have q3 : k ≤ bs.length := by omega
      have q4 : ¬ cap = k := by omega
      have q5 : k ≤ cap := by omega
      gi_wp2_with fail
      refine ⟨trivial, rfl, (callsIn_wide.2 (HCON.out _ wr.heap.size (hB.out.below hBb hg ((Below.refl _ wr).alloc (Nat.le_refl _) _)) (blk_cell (blk_new wr _) 0))).mono ?_⟩
      rintro e W2 ⟨⟨v, u, rfl⟩, hb2⟩
      have hb3 : Below wr.heap.size wr W2 := ((Below.refl _ wr).alloc (Nat.le_refl _) _).trans (hb2.mono (by simp))
      obtain ⟨fn, tmps, assign, body, hy, hR⟩ := HY.out pre (k, L) W2 (HJ.out _ _ _ hj.out hb3) HP.out
      have HB2 := Aside0.mk (hB.out.below hBb hg hb3)
      clear hb2 hb3 hcw HCON
      dsimp only [lineV] at hy
      gi_wp2
      refine ⟨rfl, hR.mono ?_⟩
      rintro e W3 (⟨rfl, hJ3, hk3⟩ | ⟨rfl, hJx3⟩)
      · have HJ3 := Aside0.mk hJ3
        have HB3 := Aside0.mk (HB2.out.trans hk3)
        clear hJ3 hk3
        gi_wp2
        go_roundw
        case rel => exact ⟨pre ++ [(k, L)], k + L.length + 1, f, by go_num, ⟨by rw [hcut.out, HE.out, List.append_assoc, ← Nat.add_assoc]; rfl⟩, ⟨by have := hf.out; omega⟩, HJ3, HB3⟩
        case measure => simp [intOf]; omega
      · gi_wp2
        refine bodyPost_ret (results_none rfl _ _ _) rfl ?_
        exact ⟨⟨_, rfl⟩, .inr ⟨pre ++ [(k, L)], HP.out, hJx3⟩⟩
    · have hd : bs.drop k = [] := List.drop_eq_nil_of_le (by omega)
      have p1 : decide ((k : Int) < (bs.length : Int)) = false := decide_eq_false (by omega)
      have h2 := hcut.out
      rw [hd, cutF_nil, List.append_nil] at h2
      have H2 := Aside0.mk h2
      clear hd h2
      gi_wp2
      go_end0
      exact ⟨⟨_, rfl⟩, .inl ⟨pre, H2.out.symm, hj.out⟩⟩
set_option maxRecDepth 100000 in
set_option maxHeartbeats 1000000 in
theorem cut1_nil (l Bb : Nat) (A : Option Addr) (cap : Nat) (J : List (Nat × List Int) → World → Prop) (W : World) (hc : W.cell? ⟨Bb, 0, none⟩ = some (.slice A 0 cap)) (h0 : J [] W) :
    CallsIn Fence.wide 0 Tryd.prog 29 #[.func (.yield l) #[] #[], .pointer (some ⟨Bb, 0, none⟩)] W fun e W' => (∃ v, e = .returned v) ∧ J [] W' := by
  have H0 := Aside0.mk h0
  clear h0
  refine callsIn_of_wp Tryd.func29 rfl trivial ?_ rfl
  simp only [Tryd.ntmps29, List.size_toArray, List.length_cons, List.length_nil, Nat.reduceAdd, Nat.reduceSub, Array.replicate_succ, Array.replicate_zero, List.push_toArray, List.append_toArray, List.nil_append, List.cons_append]
  gi_wp2
  gi_loopw [3] (fun i wr => i = .int .i64 0 ∧ Aside0 (wr.cell? ⟨Bb, 0, none⟩ = some (.slice A 0 cap)) ∧ Aside0 (J [] wr)) (fun _ _ => 0)
  case atStart => exact ⟨rfl, ⟨hc⟩, H0⟩
  case round =>
    obtain ⟨rfl, hc, hJs⟩ := hrel
    have hc := hc.out
    gi_wp2
    go_end0
    exact ⟨⟨_, rfl⟩, hJs.out⟩
set_option maxHeartbeats 1000000 in
theorem cut_in (A : Option Addr) (n c : Nat) (w : World) : CallsIn Fence.wide 0 Tryd.prog 21 #[.slice A n c] w fun e w' =>
    e = .returned (.func (.func 29) #[] #[.pointer (some ⟨w.heap.size, 0, none⟩)]) ∧ w' = w.alloc (.cells #[.slice A n c] 22) := by
  refine callsIn_of_wp Tryd.func21 rfl trivial ?_ rfl
  simp only [Tryd.ntmps21, List.size_toArray, List.length_cons, List.length_nil, Nat.reduceAdd, Nat.reduceSub, Array.replicate_succ, Array.replicate_zero, List.push_toArray, List.append_toArray, List.nil_append, List.cons_append]
  gi_wp2
  go_ret
  exact ⟨rfl, rfl⟩
/-- The iterator's contract: A's row holds bs, in a world w whose heap has the box. -/
theorem cut_seq (Bb g o cap : Nat) (bs : List Int) (hu : isU8 bs = true) (hlen : bs.length ≤ 67108864) (hcap : bs.length ≤ cap) (w : World) (hBb : Bb < w.heap.size) (hg : g < w.heap.size)
    (hc : w.cell? ⟨Bb, 0, none⟩ = some (.slice (some ⟨g, o, none⟩) bs.length cap)) (hcs : ∀ i, i < bs.length → w.cell? ⟨g, o + i, none⟩ = some (.int .u8 (bs.getD i 0))) :
    SeqT Tryd.prog 29 #[.pointer (some ⟨Bb, 0, none⟩)] (lineV g o cap) (Two Bb g) (fun A B => Below A.heap.size A B) (fun pre x => (pre ++ [x]) <+: cutF (bs.length + 1) 0 bs) (fun xs => xs = cutF (bs.length + 1) 0 bs) (fun pre => pre <+: cutF (bs.length + 1) 0 bs) w :=
  fun l J Jx W hW hJ _ hY h0 => cut1_in l Bb g o cap bs hu hlen hcap J Jx hJ hY W ((hW.cell (p := ⟨Bb, 0, none⟩) hBb).trans hc) (fun i hi => (hW.cell (p := ⟨g, o + i, none⟩) hg).trans (hcs i hi)) (Nat.lt_of_lt_of_le hg hW.size) h0
theorem cut_seq_nil (Bb g o cap0 : Nat) (A : Option Addr) (cap : Nat) (w : World) (hBb : Bb < w.heap.size) (hc : w.cell? ⟨Bb, 0, none⟩ = some (.slice A 0 cap)) :
    SeqT Tryd.prog 29 #[.pointer (some ⟨Bb, 0, none⟩)] (lineV g o cap0) (Two Bb g) (fun A B => Below A.heap.size A B) (fun pre x => (pre ++ [x]) <+: cutF 1 0 []) (fun xs => xs = cutF 1 0 []) (fun pre => pre <+: cutF 1 0 []) w :=
  fun l J Jx W hW hJ _ hY h0 => (cut1_nil l Bb A cap J W ((hW.cell (p := ⟨Bb, 0, none⟩) hBb).trans hc) h0).mono fun e W' ⟨he, hj⟩ => ⟨he, .inl ⟨[], rfl, hj⟩⟩
end Go.Proofs.YthhdjbpmkfnhjaaDoor.P
