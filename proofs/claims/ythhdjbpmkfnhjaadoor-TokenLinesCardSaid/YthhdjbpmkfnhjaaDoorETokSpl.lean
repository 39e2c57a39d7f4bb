/- strings.SplitSeq at one space: the iterator over what stands between spaces. -/
import Derived.Test.YthhdjbpmkfnhjaaDoorETokIdx
import Derived.Lib.IndexBytes
import Derived.Lib.Strings
namespace Go.Proofs.YthhdjbpmkfnhjaaDoor.P
open Go.RowKit Go.Proofs.YthhdjbpmkfnhjaaDoorW.PrintWords
set_option linter.unusedVariables false
set_option linter.unusedSimpArgs false
attribute [local go_sem] Oper.semAt_some

theorem bytes_ext {a b : ByteArray} (h : a.data.toList = b.data.toList) : a = b := by
  cases a
  cases b
  exact congrArg ByteArray.mk (Array.toList_inj.1 h)
theorem ext_take (s : ByteArray) (i : Nat) : (s.extract 0 i).data.toList = s.data.toList.take i := by
  rw [Lib.extract_data]
  simp
theorem ext_drop (s : ByteArray) (i : Nat) : (s.extract i s.size).data.toList = s.data.toList.drop i := by
  exact Lib.extract_to_end s i
theorem piecesB_idx (s : ByteArray) : (Lib.indexByte s.data.toList 32 = -1 ∧ piecesB s = [s]) ∨ ∃ i : Nat, Lib.indexByte s.data.toList 32 = (i : Int) ∧ i < s.size ∧ piecesB s = s.extract 0 i :: piecesB (s.extract (i + 1) s.size) := by
  unfold piecesB
  rcases pieces_idx 32 s.data.toList with ⟨h1, h2⟩ | ⟨i, h1, h2, h3⟩
  · refine .inl ⟨h1, ?_⟩
    rw [h2]
    rfl
  · refine .inr ⟨i, h1, h2, ?_⟩
    rw [h3, List.map_cons, ext_drop]
    congr 1
    exact bytes_ext (by rw [ext_take])
/-- How much is still to come, read off the memory. -/
def strM (Bs : Nat) (wr : World) : Nat := match wr.cell? ⟨Bs, 0, none⟩ with
  | some (.string s) => s.size + 1
  | _ => 0
/-- The three boxes are kept. -/
def Boxes3 (B1 B2 B3 : Nat) (A B : World) : Prop := B.heap[B1]? = A.heap[B1]? ∧ B.heap[B2]? = A.heap[B2]? ∧ B.heap[B3]? = A.heap[B3]?
set_option maxRecDepth 100000 in
set_option maxHeartbeats 2000000 in
theorem spl1_in (l B1 B2 B3 : Nat) (h12 : B1 ≠ B2) (h32 : B3 ≠ B2) (s0 : ByteArray) (hs0 : s0.size < 4611686018427387904) (J Jx : List ByteArray → World → Prop) (hJ : ∀ s (A : World) v, J s A → J s (A.setCell ⟨B2, 0, none⟩ v))
    (hY : ∀ pre x W1, J pre W1 → (pre ++ [x]) <+: piecesB s0 → YieldAt Fence.wide 0 Tryd.prog l #[.string x] W1 fun e W' =>
      (e = .returned (.bool true) ∧ J (pre ++ [x]) W' ∧ Boxes3 B1 B2 B3 W1 W') ∨ (e = .returned (.bool false) ∧ Jx (pre ++ [x]) W'))
    (W : World) (hc1 : W.cell? ⟨B1, 0, none⟩ = some (.string ⟨#[32]⟩)) (hc2 : W.cell? ⟨B2, 0, none⟩ = some (.string s0)) (hz2 : W.frozen? ⟨B2, 0, none⟩ = false) (hc3 : W.cell? ⟨B3, 0, none⟩ = some (.int .i64 0)) (h0 : J [] W) :
    CallsIn Fence.wide 0 Tryd.prog 38 #[.func (.yield l) #[] #[], .pointer (some ⟨B1, 0, none⟩), .pointer (some ⟨B2, 0, none⟩), .pointer (some ⟨B3, 0, none⟩)] W (IterEnds (fun xs => xs = piecesB s0) (fun pre => pre <+: piecesB s0) J Jx) := by
  have HJ := Aside0.mk hJ
  have HY := Aside0.mk hY
  have H0 := Aside0.mk h0
  clear hJ hY h0
  refine callsIn_of_wp Tryd.func38 rfl trivial ?_ rfl
  simp only [Tryd.ntmps38, List.size_toArray, List.length_cons, List.length_nil, Nat.reduceAdd, Nat.reduceSub, Array.replicate_succ, Array.replicate_zero, List.push_toArray, List.append_toArray, List.nil_append, List.cons_append]
  gi_wp2
  gi_loopw [7] (fun _ wr => ∃ (pre : List ByteArray) (s : ByteArray), Aside0 (piecesB s0 = pre ++ piecesB s) ∧ Aside0 (s.size ≤ s0.size) ∧ Aside0 (J pre wr) ∧ wr.cell? ⟨B1, 0, none⟩ = some (.string ⟨#[32]⟩) ∧ wr.cell? ⟨B2, 0, none⟩ = some (.string s) ∧ wr.frozen? ⟨B2, 0, none⟩ = false ∧ wr.cell? ⟨B3, 0, none⟩ = some (.int .i64 0))
    (fun _ wr => strM B2 wr)
  case atStart => exact ⟨[], s0, ⟨rfl⟩, ⟨Nat.le_refl _⟩, H0, hc1, hc2, hz2, hc3⟩
  case round =>
    obtain ⟨pre, s, hp, hs, hj, k1, k2, kz, k3⟩ := hrel
    have hm : strM B2 wr = s.size + 1 := by
      unfold strM
      rw [k2]
    have HM := Aside0.mk hm
    clear hm
    have hszb : s.size < 4611686018427387904 := Nat.lt_of_le_of_lt hs.out hs0
    have hix := Aside0.mk (sIndex1 s wr)
    rcases piecesB_idx s with ⟨h1, h2⟩ | ⟨i, h1, hi, h2⟩
    · rw [h1] at hix
      have hpre : (pre ++ [s]) <+: piecesB s0 := by
        rw [hp.out, h2]
        exact List.prefix_refl _
      obtain ⟨fn, tmps, assign, body, hy, hR⟩ := HY.out pre s wr hj.out hpre
      have HP := Aside0.mk hpre
      have H2 := Aside0.mk h2
      clear h1 h2 hpre
      gi_wp2_with fail
      refine ⟨trivial, rfl, (callsIn_wide.2 hix.out).mono ?_⟩
      rintro e W2 ⟨rfl, rfl⟩
      gi_wp2
      refine ⟨rfl, hR.mono ?_⟩
      rintro e W3 (⟨rfl, hJ3, hk3⟩ | ⟨rfl, hJx3⟩)
      · have HJ3 := Aside0.mk hJ3
        clear hJ3 hk3
        gi_wp2
        go_end0
        exact ⟨⟨_, rfl⟩, .inl ⟨_, by rw [hp.out, H2.out], HJ3.out⟩⟩
      · have HJ3 := Aside0.mk hJx3
        clear hJx3
        gi_wp2
        go_end0
        exact ⟨⟨_, rfl⟩, .inr ⟨_, HP.out, HJ3.out⟩⟩
    · rw [h1] at hix
      have hpre : (pre ++ [s.extract 0 i]) <+: piecesB s0 := by
        rw [hp.out, h2]
        exact ⟨_, List.append_assoc _ _ _⟩
      obtain ⟨fn, tmps, assign, body, hy, hR⟩ := HY.out pre (s.extract 0 i) wr hj.out hpre
      have HP := Aside0.mk hpre
      have H2 := Aside0.mk h2
      clear h1 h2 hpre
      have q0 : ¬ ((i : Int) < 0) := by omega
      have q1 : decide ((i : Int) < 0) = false := decide_eq_false q0
      have q2 : i ≤ s.size := by omega
      have q3 : i + 1 ≤ s.size := by omega
      gi_wp2_with fail
      refine ⟨trivial, rfl, (callsIn_wide.2 hix.out).mono ?_⟩
      rintro e W2 ⟨rfl, rfl⟩
      gi_wp2
      refine ⟨rfl, hR.mono ?_⟩
      rintro e W3 (⟨rfl, hJ3, hk3⟩ | ⟨rfl, hJx3⟩)
      · have k1' : W3.cell? ⟨B1, 0, none⟩ = some (.string ⟨#[32]⟩) := (World.cell?_of_block (a := ⟨B1, 0, none⟩) hk3.1).trans k1
        have k2' : W3.cell? ⟨B2, 0, none⟩ = some (.string s) := (World.cell?_of_block (a := ⟨B2, 0, none⟩) hk3.2.1).trans k2
        have kz' : W3.frozen? ⟨B2, 0, none⟩ = false := (World.frozen?_of_block (a := ⟨B2, 0, none⟩) hk3.2.1).trans kz
        have k3' : W3.cell? ⟨B3, 0, none⟩ = some (.int .i64 0) := (World.cell?_of_block (a := ⟨B3, 0, none⟩) hk3.2.2).trans k3
        have HJ3 := Aside0.mk hJ3
        clear hJ3 hk3
        gi_wp2
        have hset : (W3.setCell ⟨B2, 0, none⟩ (.string (s.extract (i + 1) s.size))).cell? ⟨B2, 0, none⟩ = some (.string (s.extract (i + 1) s.size)) := World.cell?_setCell_same' _ _ _ (by rw [k2']; rfl)
        have hsz : (s.extract (i + 1) s.size).size = s.size - (i + 1) := by
          rw [ByteArray.size_extract]
          omega
        go_roundw
        case rel => exact ⟨pre ++ [s.extract 0 i], s.extract (i + 1) s.size, ⟨by rw [hp.out, H2.out, List.append_assoc]; rfl⟩, ⟨by have := hs.out; rw [hsz]; omega⟩, ⟨HJ.out _ _ _ HJ3.out⟩, (World.cell?_setCell_other W3 _ _ _ (fun e => h12 (congrArg Addr.block e).symm)).trans k1', hset, by rw [World.frozen?_setCell]; exact kz', (World.cell?_setCell_other W3 _ _ _ (fun e => h32 (congrArg Addr.block e).symm)).trans k3'⟩
        case measure =>
          rw [HM.out]
          unfold strM
          rw [hset]
          simp only [hsz]
          omega
      · have HJ3 := Aside0.mk hJx3
        clear hJx3
        gi_wp2
        refine bodyPost_ret (results_none rfl _ _ _) rfl ?_
        exact ⟨⟨_, rfl⟩, .inr ⟨_, HP.out, HJ3.out⟩⟩
set_option maxHeartbeats 1000000 in
theorem splitSeq_in (s : ByteArray) (w : World) : CallsIn Fence.wide 0 Tryd.prog 32 #[.string s, .string ⟨#[32]⟩, .int .i64 0] w fun e w' =>
    e = .returned (.func (.func 38) #[] #[.pointer (some ⟨w.heap.size + 1, 0, none⟩), .pointer (some ⟨w.heap.size, 0, none⟩), .pointer (some ⟨w.heap.size + 1 + 1, 0, none⟩)]) ∧ w' = ((w.alloc (.cells #[.string s] 9)).alloc (.cells #[.string ⟨#[32]⟩] 9)).alloc (.cells #[.int .i64 0] 3) := by
  refine callsIn_of_wp Tryd.func32 rfl trivial ?_ rfl
  simp only [Tryd.ntmps32, List.size_toArray, List.length_cons, List.length_nil, Nat.reduceAdd, Nat.reduceSub, Array.replicate_succ, Array.replicate_zero, List.push_toArray, List.append_toArray, List.nil_append, List.cons_append]
  gi_wp2
  go_ret
  exact ⟨rfl, rfl⟩
set_option maxHeartbeats 1000000 in
theorem SplitSeq_in (s : ByteArray) (w : World) : CallsIn Fence.wide 0 Tryd.prog 23 #[.string s, .string ⟨#[32]⟩] w fun e w' =>
    e = .returned (.func (.func 38) #[] #[.pointer (some ⟨w.heap.size + 1, 0, none⟩), .pointer (some ⟨w.heap.size, 0, none⟩), .pointer (some ⟨w.heap.size + 1 + 1, 0, none⟩)]) ∧ w' = ((w.alloc (.cells #[.string s] 9)).alloc (.cells #[.string ⟨#[32]⟩] 9)).alloc (.cells #[.int .i64 0] 3) := by
  refine callsIn_of_wp Tryd.func23 rfl trivial ?_ rfl
  simp only [Tryd.ntmps23, List.size_toArray, List.length_cons, List.length_nil, Nat.reduceAdd, Nat.reduceSub, Array.replicate_succ, Array.replicate_zero, List.push_toArray, List.append_toArray, List.nil_append, List.cons_append]
  gi_wp2_with fail
  refine ⟨trivial, rfl, (splitSeq_in s w).mono ?_⟩
  rintro e w2 ⟨rfl, rfl⟩
  gi_wp2
  go_ret
  exact ⟨rfl, rfl⟩
/-- The iterator's contract. -/
theorem spl_seq (B1 B2 B3 : Nat) (h12 : B1 ≠ B2) (h32 : B3 ≠ B2) (s0 : ByteArray) (hs0 : s0.size < 4611686018427387904) (w : World) (l1 : B1 < w.heap.size) (l2 : B2 < w.heap.size) (l3 : B3 < w.heap.size)
    (hc1 : w.cell? ⟨B1, 0, none⟩ = some (.string ⟨#[32]⟩)) (hc2 : w.cell? ⟨B2, 0, none⟩ = some (.string s0)) (hz2 : w.frozen? ⟨B2, 0, none⟩ = false) (hc3 : w.cell? ⟨B3, 0, none⟩ = some (.int .i64 0)) :
    SeqT Tryd.prog 38 #[.pointer (some ⟨B1, 0, none⟩), .pointer (some ⟨B2, 0, none⟩), .pointer (some ⟨B3, 0, none⟩)] (fun x : ByteArray => #[.string x]) (Boxes3 B1 B2 B3) (fun A B => ∃ v, B = A.setCell ⟨B2, 0, none⟩ v) (fun pre x => (pre ++ [x]) <+: piecesB s0) (fun xs => xs = piecesB s0) (fun pre => pre <+: piecesB s0) w :=
  fun l J Jx W hW hJ _ hY h0 => spl1_in l B1 B2 B3 h12 h32 s0 hs0 J Jx (fun s A v h => hJ s A _ h ⟨v, rfl⟩) hY W ((hW.cell (p := ⟨B1, 0, none⟩) l1).trans hc1) ((hW.cell (p := ⟨B2, 0, none⟩) l2).trans hc2) ((hW.frozen (p := ⟨B2, 0, none⟩) l2).trans hz2) ((hW.cell (p := ⟨B3, 0, none⟩) l3).trans hc3) h0
end Go.Proofs.YthhdjbpmkfnhjaaDoor.P
