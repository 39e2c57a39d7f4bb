/- armisticeref04.Read: the document's own reading of words comes to what the program's does. -/
import Derived.Test.YtoenklncjbcgiaaDoorERead
import Derived.Test.YtoenklncjbcgiaaDoorMChk
import Derived.Test.YtoenklncjbcgiaaDoorMRef
import Derived.Test.YtoenklncjbcgiaaDoorPx6
import Derived.Test.YtoenklncjbcgiaaDoorPx5
import Derived.Test.YtoenklncjbcgiaaDoorPx4
import Derived.Test.YtoenklncjbcgiaaDoorPx3
import Derived.Test.YtoenklncjbcgiaaDoorPx3
namespace Go.Proofs.YtoenklncjbcgiaaDoor.P
open Go.RowKit Go.Proofs.YtoenklncjbcgiaaDoorW.PrintWords Go.Proofs.YtoenklncjbcgiaaDoorW.PrintLast Go.Proofs.YtoenklncjbcgiaaDoorW.PrintMore
set_option linter.unusedVariables false
set_option linter.unusedSimpArgs false

theorem whole_e {s : ByteArray} {n e : Int} (h : wholeF s = some (n, e)) : e = 0 ∨ e = 5 := by
  obtain ⟨x, _, h⟩ := Option.bind_eq_some_iff.1 h
  simp only [Option.some.injEq, Prod.mk.injEq] at h
  obtain ⟨_, rfl⟩ := h
  split
  · exact .inl rfl
  · exact .inr rfl
theorem number_ref (s : ByteArray) (n e : Int) (h : wholeF s = some (n, e)) : armisticeref04_number.f 24 s = some (n, e == 0) := by
  obtain ⟨r, h1, h2⟩ := refGet_eq s 22 rfl
  unfold wholeF at h
  rw [h2] at h
  unfold armisticeref04_number.f
  rw [h1]
  simp only [Option.bind_some, Option.some.injEq, Prod.mk.injEq] at h ⊢
  obtain ⟨rfl, rfl⟩ := h
  refine ⟨rfl, ?_⟩
  by_cases c : r.2.1 = 0
  · rw [if_pos c, c]
  · rw [if_neg c]
    exact beq_eq_false_iff_ne.2 c
theorem number_at (s : ByteArray) (n e : Int) (h : wholeF s = some (n, e)) (w : World) : Calls Tryd.prog 33 #[.string s] w fun v w' => v = .returned (.tuple #[.int .i64 n, .bool (e == 0)]) ∧ Below w.heap.size w w' :=
  armisticeref04_number.calls 24 s n (e == 0) w (number_ref s n e h)
theorem returns_at (s : ByteArray) (x y : Int × Int × Int × Int) (e : Int) (h : stepF .result s x = some (y, e)) (w : World) : Calls Tryd.prog 34 #[.string s] w fun v w' => v = .returned (.tuple #[.agg #[.int .i64 y.2.2.1, .int .i64 y.2.2.2], .bool (e == 0)]) ∧ Below w.heap.size w w' := by
  refine armisticeref04_returns.calls 24 s y.2.2.1 y.2.2.2 (e == 0) w ?_
  unfold stepF at h
  unfold armisticeref04_returns.f
  simp only at h
  by_cases c1 : s.toList = [111, 107]
  · rw [if_pos c1] at h ⊢
    simp only [Option.some.injEq, Prod.mk.injEq] at h
    obtain ⟨rfl, rfl⟩ := h
    rfl
  · rw [if_neg c1] at h ⊢
    by_cases c2 : s.toList = [110, 111, 110, 101]
    · rw [if_pos c2] at h ⊢
      simp only [Option.some.injEq, Prod.mk.injEq] at h
      obtain ⟨rfl, rfl⟩ := h
      rfl
    · rw [if_neg c2] at h ⊢
      obtain ⟨⟨n, e1⟩, hw, h⟩ := Option.bind_eq_some_iff.1 h
      simp only [Option.some.injEq, Prod.mk.injEq] at h
      obtain ⟨rfl, rfl⟩ := h
      rw [number_ref s n e1 hw, Option.bind_some]
      rcases whole_e hw with rfl | rfl <;> rfl
theorem step_e {st : StepK} {s : ByteArray} {x y : Int × Int × Int × Int} {e : Int} (h : stepF st s x = some (y, e)) : e = 0 ∨ (match st with | .result => e = 9 | _ => e = 5) := by
  cases st with
  | first =>
    obtain ⟨⟨n, e1⟩, hw, h⟩ := Option.bind_eq_some_iff.1 h
    simp only [Option.some.injEq, Prod.mk.injEq] at h
    obtain ⟨_, rfl⟩ := h
    exact whole_e hw
  | second =>
    obtain ⟨⟨n, e1⟩, hw, h⟩ := Option.bind_eq_some_iff.1 h
    simp only [Option.some.injEq, Prod.mk.injEq] at h
    obtain ⟨_, rfl⟩ := h
    exact whole_e hw
  | arrow =>
    unfold stepF at h
    simp only [Option.some.injEq, Prod.mk.injEq] at h
    obtain ⟨_, rfl⟩ := h
    split
    · exact .inl rfl
    · exact .inr rfl
  | result =>
    unfold stepF at h
    simp only at h
    split at h
    · simp only [Option.some.injEq, Prod.mk.injEq] at h
      exact .inl h.2.symm
    · split at h
      · simp only [Option.some.injEq, Prod.mk.injEq] at h
        exact .inl h.2.symm
      · obtain ⟨⟨n, e1⟩, hw, h⟩ := Option.bind_eq_some_iff.1 h
        simp only [Option.some.injEq, Prod.mk.injEq] at h
        obtain ⟨_, rfl⟩ := h
        split
        · exact .inl rfl
        · exact .inr rfl
theorem check_vals {n a b rk rn c : Int} (hn : 1 ≤ n ∧ n ≤ 15) (h : operation_Check.f n a b rk rn = some c) : c = 0 ∨ c = 2 ∨ c = 9 := by
  unfold operation_Check.f at h
  rw [if_pos hn] at h
  simp only [Option.some.injEq] at h
  split at h
  · split at h <;> omega
  · omega
theorem set_blk {W : World} {B : Nat} {k a b rk rn : Int} (hz : W.heap[B]? = some (.cells (opCells 0 0 0 0 0) 27)) : (((((W.setCell ⟨B, 0, none⟩ (.int .i64 k)).setCell ⟨B, 1, none⟩ (.int .i64 a)).setCell ⟨B, 2, none⟩ (.int .i64 b)).setCell ⟨B, 3, none⟩ (.int .i64 rk)).setCell ⟨B, 4, none⟩ (.int .i64 rn)).heap[B]? = some (.cells (opCells k a b rk rn) 27) := by
  have h0 : (W.setCell ⟨B, 0, none⟩ (.int .i64 k)).heap[B]? = some (.cells #[.int .i64 k, .int .i64 0, .int .i64 0, .int .i64 0, .int .i64 0] 27) := blk_put hz 0 _ rfl
  have h1 := blk_put h0 1 (.int .i64 a) (cs' := #[.int .i64 k, .int .i64 a, .int .i64 0, .int .i64 0, .int .i64 0]) rfl
  have h2 := blk_put h1 2 (.int .i64 b) (cs' := #[.int .i64 k, .int .i64 a, .int .i64 b, .int .i64 0, .int .i64 0]) rfl
  have h3 := blk_put h2 3 (.int .i64 rk) (cs' := #[.int .i64 k, .int .i64 a, .int .i64 b, .int .i64 rk, .int .i64 0]) rfl
  exact blk_put h3 4 (.int .i64 rn) (cs' := opCells k a b rk rn) rfl
theorem blk_far {W : World} {g g' i : Nat} {o : Obj} (h : W.heap[g]? = some o) (hne : g ≠ g') (v : Value) : (W.setCell ⟨g', i, none⟩ v).heap[g]? = some o := (Below.heap_setCell W ⟨g', i, none⟩ v g hne).trans h
/-- What lies in memory while words are read: the answer's block, the kind, the operation, the arguments. -/
def RefMem (w : World) (gk go ga : Nat) (kd : Array Value) (k : Int) (x : Int × Int × Int × Int) (W : World) : Prop :=
  W.heap[w.heap.size]? = some (.cells (opCells 0 0 0 0 0) 27) ∧ W.heap[gk]? = some (.cells kd 57) ∧ W.heap[go]? = some (.cells (opCells k 0 0 x.2.2.1 x.2.2.2) 27) ∧
  W.heap[ga]? = some (.cells #[.int .i64 x.1, .int .i64 x.2.1] 60) ∧ Below w.heap.size w W
theorem RefMem.below {w : World} {gk go ga : Nat} {kd : Array Value} {k : Int} {x : Int × Int × Int × Int} {W W' : World} (h : RefMem w gk go ga kd k x W) (hb : Below W.heap.size W W') : RefMem w gk go ga kd k x W' :=
  ⟨blk_below h.1 hb, blk_below h.2.1 hb, blk_below h.2.2.1 hb, blk_below h.2.2.2.1 hb, h.2.2.2.2.trans (hb.mono h.2.2.2.2.size)⟩
theorem RefMem.arg0 {w : World} {gk go ga : Nat} {kd : Array Value} {k : Int} {x : Int × Int × Int × Int} {W : World} (h : RefMem w gk go ga kd k x W) (h1 : w.heap.size < ga) (h2 : gk ≠ ga) (h3 : go ≠ ga) (n : Int) :
    RefMem w gk go ga kd k (n, x.2.1, x.2.2.1, x.2.2.2) (W.setCell ⟨ga, 0, none⟩ (.int .i64 n)) :=
  ⟨blk_far h.1 (by omega) _, blk_far h.2.1 h2 _, blk_far h.2.2.1 h3 _, blk_put h.2.2.2.1 0 _ rfl, h.2.2.2.2.setCell (p := ⟨ga, 0, none⟩) (Nat.le_of_lt h1) _⟩
theorem RefMem.arg1 {w : World} {gk go ga : Nat} {kd : Array Value} {k : Int} {x : Int × Int × Int × Int} {W : World} (h : RefMem w gk go ga kd k x W) (h1 : w.heap.size < ga) (h2 : gk ≠ ga) (h3 : go ≠ ga) (n : Int) :
    RefMem w gk go ga kd k (x.1, n, x.2.2.1, x.2.2.2) (W.setCell ⟨ga, 1, none⟩ (.int .i64 n)) :=
  ⟨blk_far h.1 (by omega) _, blk_far h.2.1 h2 _, blk_far h.2.2.1 h3 _, blk_put h.2.2.2.1 1 _ rfl, h.2.2.2.2.setCell (p := ⟨ga, 1, none⟩) (Nat.le_of_lt h1) _⟩
theorem RefMem.ret {w : World} {gk go ga : Nat} {kd : Array Value} {k : Int} {x : Int × Int × Int × Int} {W : World} (h : RefMem w gk go ga kd k x W) (h1 : w.heap.size < go) (h2 : gk ≠ go) (h3 : ga ≠ go) (p q : Int) :
    RefMem w gk go ga kd k (x.1, x.2.1, p, q) ((W.setCell ⟨go, 3, none⟩ (.int .i64 p)).setCell ⟨go, 4, none⟩ (.int .i64 q)) :=
  ⟨blk_far (blk_far h.1 (by omega) _) (by omega) _, blk_far (blk_far h.2.1 h2 _) h2 _, blk_put (blk_put h.2.2.1 3 (.int .i64 p) (cs' := opCells k 0 0 p x.2.2.2) rfl) 4 (.int .i64 q) (cs' := opCells k 0 0 p q) rfl, blk_far (blk_far h.2.2.2.1 h3 _) h3 _,
    (h.2.2.2.2.setCell (p := ⟨go, 3, none⟩) (Nat.le_of_lt h1) _).setCell (p := ⟨go, 4, none⟩) (Nat.le_of_lt h1) _⟩
theorem refmem_new (w W : World) (kd : Array Value) (k : Int) (h0 : W.heap[w.heap.size]? = some (.cells (opCells 0 0 0 0 0) 27)) (HB : Below w.heap.size w W) (hlt : w.heap.size < W.heap.size) :
    RefMem w W.heap.size (W.heap.size + 1) (W.heap.size + 1 + 1) kd k (0, 0, 0, 0) (((W.alloc (.cells kd 57)).alloc (.cells (opCells k 0 0 0 0) 27)).alloc (.cells #[.int .i64 0, .int .i64 0] 60)) := by
  have e1 := blk_new (W.alloc (.cells kd 57)) (.cells (opCells k 0 0 0 0) 27)
  have e2 := blk_new ((W.alloc (.cells kd 57)).alloc (.cells (opCells k 0 0 0 0) 27)) (.cells #[.int .i64 0, .int .i64 0] 60)
  simp only [World.size_alloc] at e1 e2
  refine ⟨?_, ?_, ?_, e2, ((HB.alloc HB.size _).alloc (by have := HB.size; simp; omega) _).alloc (by have := HB.size; simp; omega) _⟩
  · exact blk_below (blk_below (blk_below h0 ((Below.refl _ _).alloc (Nat.le_refl _) _)) ((Below.refl _ _).alloc (Nat.le_refl _) _)) ((Below.refl _ _).alloc (Nat.le_refl _) _)
  · exact blk_below (blk_below (blk_new W _) ((Below.refl _ _).alloc (Nat.le_refl _) _)) ((Below.refl _ _).alloc (Nat.le_refl _) _)
  · exact blk_below e1 ((Below.refl _ _).alloc (Nat.le_refl _) _)

theorem step_keep {s : ByteArray} {x y : Int × Int × Int × Int} {e : Int} (h : stepF .result s x = some (y, e)) : y.1 = x.1 ∧ y.2.1 = x.2.1 := by
  unfold stepF at h
  simp only at h
  split at h
  · simp only [Option.some.injEq, Prod.mk.injEq] at h
    obtain ⟨rfl, _⟩ := h
    exact ⟨rfl, rfl⟩
  · split at h
    · simp only [Option.some.injEq, Prod.mk.injEq] at h
      obtain ⟨rfl, _⟩ := h
      exact ⟨rfl, rfl⟩
    · obtain ⟨⟨n, e1⟩, hw, h⟩ := Option.bind_eq_some_iff.1 h
      simp only [Option.some.injEq, Prod.mk.injEq] at h
      obtain ⟨rfl, _⟩ := h
      exact ⟨rfl, rfl⟩
theorem step_mem {w : World} {gk go ga : Nat} {kd : Array Value} {k : Int} {x y : Int × Int × Int × Int} {W : World} (h : RefMem w gk go ga kd k (x.1, x.2.1, y.2.2.1, y.2.2.2) W) (hk : y.1 = x.1 ∧ y.2.1 = x.2.1) : RefMem w gk go ga kd k y W := by
  obtain ⟨a, b, c, d⟩ := y
  obtain ⟨h1, h2⟩ := hk
  simp only at h1 h2
  subst h1 h2
  exact h
theorem RefMem.full {w : World} {gk go ga : Nat} {kd : Array Value} {k : Int} {x : Int × Int × Int × Int} {W : World} (h : RefMem w gk go ga kd k x W) (h1 : w.heap.size < go) (h2 : gk ≠ go) (h3 : ga ≠ go) :
    ((W.setCell ⟨go, 1, none⟩ (.int .i64 x.1)).setCell ⟨go, 2, none⟩ (.int .i64 x.2.1)).heap[w.heap.size]? = some (.cells (opCells 0 0 0 0 0) 27) ∧ ((W.setCell ⟨go, 1, none⟩ (.int .i64 x.1)).setCell ⟨go, 2, none⟩ (.int .i64 x.2.1)).heap[go]? = some (.cells (opCells k x.1 x.2.1 x.2.2.1 x.2.2.2) 27) ∧ Below w.heap.size w ((W.setCell ⟨go, 1, none⟩ (.int .i64 x.1)).setCell ⟨go, 2, none⟩ (.int .i64 x.2.1)) :=
  ⟨blk_far (blk_far h.1 (by omega) _) (by omega) _, blk_put (blk_put h.2.2.1 1 (.int .i64 x.1) (cs' := opCells k x.1 0 x.2.2.1 x.2.2.2) rfl) 2 (.int .i64 x.2.1) (cs' := opCells k x.1 x.2.1 x.2.2.1 x.2.2.2) rfl,
    (h.2.2.2.2.setCell (p := ⟨go, 1, none⟩) (Nat.le_of_lt h1) _).setCell (p := ⟨go, 2, none⟩) (Nat.le_of_lt h1) _⟩
set_option maxHeartbeats 4000000 in
set_option maxRecDepth 100000 in
theorem refread_0 (typ ret : Int) (word : ByteArray) (ad : Addr) (c0 : Nat) (l : List ByteArray) (hl : 0 < l.length) (hl2 : l.length ≤ 9223372036854775807) (hc0 : l.length ≤ c0) (k : Int) (hk : 1 ≤ k ∧ k ≤ 15) (w : World) (had : ad.block < w.heap.size)
    (hcell : ∀ i : Int, 0 ≤ i → i < l.length → w.cell? (ad.add i.toNat) = some (.string (rdOf ByteArray.empty l i)))
    (hkind : ∀ W, Calls Tryd.prog 21 #[.string (rdOf ByteArray.empty l 0)] W fun e w' => e = .returned (.tuple #[.int .i64 k, .int .i64 0]) ∧ Below W.heap.size W w')
    (hof : ∀ W, Calls Tryd.prog 32 #[.int .i64 k] W fun e w' => e = .returned (.tuple #[.agg #[.int .i64 typ, .int .i64 0, .int .i64 ret, .string word], .bool true]) ∧ Below W.heap.size W w')
    (R : (Int × Int × Int × Int) × Nat × Int) (hR : runSteps l [.arrow, .result] 0 (0, 0, 0, 0) = some R) (r1 r2 r3 r4 r5 r6 r7 : Int) (hE : endRead l 2 k R = some (r1, r2, r3, r4, r5, r6, r7)) :
    Calls Tryd.prog 10 #[.slice (some ad) l.length c0] w fun e w' => e = .returned (.tuple #[.agg #[.int .i64 r1, .int .i64 r2, .int .i64 r3, .int .i64 r4, .int .i64 r5], .int .i64 r6, .int .i64 r7]) ∧ Below w.heap.size w w' := by
  have HK := Aside0.mk hkind
  have HY := Aside0.mk hof
  have HC := Aside0.mk hcell
  have HR := Aside0.mk hR
  have HE := Aside0.mk hE
  have HKK := Aside0.mk hk
  have HL := Aside0.mk hl
  have HL2 := Aside0.mk hl2
  clear hkind hof hcell hR hE hk hl2
  have p1 : ((l.length : Int) == 0) = false := beq_eq_false_iff_ne.2 (by omega)
  have p2 : (0 : Int) < (l.length : Int) := by omega
  have p3 := eq_true p2
  clear hl
  have hcw : w.cell? ad = some (.string (rdOf ByteArray.empty l 0)) := by
    have := HC.out 0 (by omega) (by omega)
    simpa [Addr.add] using this
  go_enter Tryd.func10, Tryd.ntmps10
  go_wp2_with fail
  refine (HK.out _).mono ?_
  rintro e w2 ⟨rfl, hb2⟩
  have HZ2 := Aside0.mk (blk_below (blk_new w _) hb2)
  have HB2 := Aside0.mk (((Below.refl _ w).alloc (Nat.le_refl _) _).trans (hb2.mono (by simp)))
  clear hb2
  go_wp2_with fail
  refine (HY.out _).mono ?_
  rintro e w3 ⟨rfl, hb3⟩
  have HZ3 := Aside0.mk (blk_below HZ2.out hb3)
  have HB3 := Aside0.mk (HB2.out.trans (hb3.mono HB2.out.size))
  have hBW3 : w.heap.size < w3.heap.size := blk_lt HZ3.out
  clear hb3 hcw
  go_wp2_with fail
  refine then_world (RefMem w w3.heap.size (w3.heap.size + 1) (w3.heap.size + 1 + 1) #[.int .i64 typ, .int .i64 0, .int .i64 ret, .string word] k (0, 0, 0, 0)) (refmem_new w w3 _ k HZ3.out HB3.out hBW3) fun W0 HF => ?_
  have n1 : w.heap.size < w3.heap.size := hBW3
  have HM := Aside0.mk HF
  clear HZ2 HZ3 HB2 HB3 HF hBW3
  obtain ⟨gk, hgk⟩ : ∃ gk, gk = w3.heap.size := ⟨_, rfl⟩
  rw [← hgk] at HM n1 ⊢
  have d1 : w.heap.size ≠ gk := by omega
  have d2 : w.heap.size ≠ gk + 1 := by omega
  have d3 : w.heap.size ≠ gk + 1 + 1 := by omega
  have d4 : gk ≠ gk + 1 := by omega
  have d5 : gk ≠ gk + 1 + 1 := by omega
  have d6 : gk + 1 ≠ gk + 1 + 1 := by omega
  have d1' := Ne.symm d1
  have d2' := Ne.symm d2
  have d3' := Ne.symm d3
  have d4' := Ne.symm d4
  have d5' := Ne.symm d5
  have d6' := Ne.symm d6
  clear hgk
  refine wp_loop_rounds 3 ?_
  rw [rounds_succ]
  by_cases cj0 : 0 + 1 = l.length
  · have hlen : (l.length : Int) = 1 := by omega
    have hR := HR.out
    unfold runSteps at hR
    rw [if_pos cj0] at hR
    have hR := (Option.some.inj hR).symm
    have hE := HE.out
    rw [hR] at hE
    unfold endRead at hE
    rw [if_pos (show (5 : Int) ≠ 0 by decide)] at hE
    simp only [Option.some.injEq, Prod.mk.injEq] at hE
    obtain ⟨rfl, rfl, rfl, rfl, rfl, rfl, rfl⟩ := hE
    clear cj0 p1 p2 p3
    have c0' := (blk_cell HM.out.1 0).trans rfl
    have c1' := (blk_cell HM.out.1 1).trans rfl
    have c2' := (blk_cell HM.out.1 2).trans rfl
    have c3' := (blk_cell HM.out.1 3).trans rfl
    have c4' := (blk_cell HM.out.1 4).trans rfl
    have f0' := blk_frozen HM.out.1 0
    have f1' := blk_frozen HM.out.1 1
    have f2' := blk_frozen HM.out.1 2
    have f3' := blk_frozen HM.out.1 3
    have f4' := blk_frozen HM.out.1 4
    have b0' := (blk_cell HM.out.2.1 1).trans rfl
    have o0' := (blk_cell HM.out.2.2.1 0).trans rfl
    have o1' := (blk_cell HM.out.2.2.1 1).trans rfl
    have o2' := (blk_cell HM.out.2.2.1 2).trans rfl
    have o3' := (blk_cell HM.out.2.2.1 3).trans rfl
    have o4' := (blk_cell HM.out.2.2.1 4).trans rfl
    have of1' := blk_frozen HM.out.2.2.1 1
    have of2' := blk_frozen HM.out.2.2.1 2
    have of3' := blk_frozen HM.out.2.2.1 3
    have of4' := blk_frozen HM.out.2.2.1 4
    have a0' := (blk_cell HM.out.2.2.2.1 0).trans rfl
    have a1' := (blk_cell HM.out.2.2.2.1 1).trans rfl
    have af0' := blk_frozen HM.out.2.2.2.1 0
    have af1' := blk_frozen HM.out.2.2.2.1 1
    have t0' := blk_lt HM.out.1
    have t1' := blk_lt HM.out.2.1
    have t2' := blk_lt HM.out.2.2.1
    have t3' := blk_lt HM.out.2.2.2.1
    go_wp2
    refine bodyPost_ret (results_ctt rfl _ _ w.heap.size 27 (opCells 0 0 0 0 0) (0, 0) _ rfl (set_blk (HM.out).1) Tryd.underlying27 rfl (by kernel_rfl)) rfl ?_
    exact ⟨rfl, same_below (HM.out).2.2.2.2⟩
  have pj0 : (1 : Int) < (l.length : Int) := by have := HL.out; omega
  have HL' := Aside0.mk (show 1 < l.length by omega)
  clear HL
  have HL := HL'
  clear HL'
  have pk0 := eq_true pj0
  have pd0 := decide_eq_true pj0
  have hcw : W0.cell? ⟨ad.block, ad.off + 1, none⟩ = some (.string (rdOf ByteArray.empty l 1)) := by
    have h := HC.out 1 (by omega) (by omega)
    exact (HM.out.2.2.2.2.cell (p := ⟨ad.block, ad.off + 1, none⟩) had).trans (by simpa [Addr.add] using h)
  have hR := HR.out
  unfold runSteps at hR
  rw [if_neg cj0] at hR
  obtain ⟨⟨y0, e0v⟩, hs, hR⟩ := Option.bind_eq_some_iff.1 hR
  have HT := Aside0.mk (show stepF .arrow (rdOf ByteArray.empty l 1) (0, 0, 0, 0) = some (y0, e0v) from hs)
  have HR' := Aside0.mk hR
  clear hR hs HR cj0
  have c0' := (blk_cell HM.out.1 0).trans rfl
  have c1' := (blk_cell HM.out.1 1).trans rfl
  have c2' := (blk_cell HM.out.1 2).trans rfl
  have c3' := (blk_cell HM.out.1 3).trans rfl
  have c4' := (blk_cell HM.out.1 4).trans rfl
  have f0' := blk_frozen HM.out.1 0
  have f1' := blk_frozen HM.out.1 1
  have f2' := blk_frozen HM.out.1 2
  have f3' := blk_frozen HM.out.1 3
  have f4' := blk_frozen HM.out.1 4
  have b0' := (blk_cell HM.out.2.1 1).trans rfl
  have o0' := (blk_cell HM.out.2.2.1 0).trans rfl
  have o1' := (blk_cell HM.out.2.2.1 1).trans rfl
  have o2' := (blk_cell HM.out.2.2.1 2).trans rfl
  have o3' := (blk_cell HM.out.2.2.1 3).trans rfl
  have o4' := (blk_cell HM.out.2.2.1 4).trans rfl
  have of1' := blk_frozen HM.out.2.2.1 1
  have of2' := blk_frozen HM.out.2.2.1 2
  have of3' := blk_frozen HM.out.2.2.1 3
  have of4' := blk_frozen HM.out.2.2.1 4
  have a0' := (blk_cell HM.out.2.2.2.1 0).trans rfl
  have a1' := (blk_cell HM.out.2.2.2.1 1).trans rfl
  have af0' := blk_frozen HM.out.2.2.2.1 0
  have af1' := blk_frozen HM.out.2.2.2.1 1
  have t0' := blk_lt HM.out.1
  have t1' := blk_lt HM.out.2.1
  have t2' := blk_lt HM.out.2.2.1
  have t3' := blk_lt HM.out.2.2.2.1
  have ht := HT.out
  unfold stepF at ht
  simp only [Option.some.injEq, Prod.mk.injEq] at ht
  obtain ⟨hy, he⟩ := ht
  subst hy
  by_cases ca : (rdOf ByteArray.empty l 1).toList = [45, 62]
  rotate_left 1
  · rw [if_neg ca] at he
    subst he
    have cb := beq_eq_false_iff_ne.2 ca
    have hR := HR'.out
    rw [if_neg (show ¬ (5 : Int) = 0 by decide)] at hR
    have hR := (Option.some.inj hR).symm
    have hE := HE.out
    rw [hR] at hE
    unfold endRead at hE
    rw [if_pos (show (5 : Int) ≠ 0 by decide)] at hE
    simp only [Option.some.injEq, Prod.mk.injEq] at hE
    obtain ⟨rfl, rfl, rfl, rfl, rfl, rfl, rfl⟩ := hE
    clear HT ca
    go_wp2
    refine bodyPost_ret (results_ctt rfl _ _ w.heap.size 27 (opCells 0 0 0 0 0) (0, 0) _ rfl (set_blk (HM.out).1) Tryd.underlying27 rfl (by kernel_rfl)) rfl ?_
    exact ⟨rfl, same_below (HM.out).2.2.2.2⟩
  rw [if_pos ca] at he
  subst he
  have cb := beq_iff_eq.2 ca
  clear HT ca
  have hR := HR'.out
  rw [if_pos rfl] at hR
  have HR := Aside0.mk (show runSteps l [.result] 1 (0, 0, 0, 0) = some R from hR)
  clear HR' hR
  go_wp2_with fail
  clear c0' c1' c2' c3' c4' f0' f1' f2' f3' f4' b0' o0' o1' o2' o3' o4' of1' of2' of3' of4' a0' a1' af0' af1' t0' t1' t2' t3'
  clear pj0 pk0 pd0 hcw cb
  rw [rounds_succ]
  by_cases cj1 : 1 + 1 = l.length
  · have hlen : (l.length : Int) = 2 := by omega
    have hR := HR.out
    unfold runSteps at hR
    rw [if_pos cj1] at hR
    have hR := (Option.some.inj hR).symm
    have hE := HE.out
    rw [hR] at hE
    unfold endRead at hE
    rw [if_pos (show (5 : Int) ≠ 0 by decide)] at hE
    simp only [Option.some.injEq, Prod.mk.injEq] at hE
    obtain ⟨rfl, rfl, rfl, rfl, rfl, rfl, rfl⟩ := hE
    clear cj1 p1 p2 p3
    have c0' := (blk_cell HM.out.1 0).trans rfl
    have c1' := (blk_cell HM.out.1 1).trans rfl
    have c2' := (blk_cell HM.out.1 2).trans rfl
    have c3' := (blk_cell HM.out.1 3).trans rfl
    have c4' := (blk_cell HM.out.1 4).trans rfl
    have f0' := blk_frozen HM.out.1 0
    have f1' := blk_frozen HM.out.1 1
    have f2' := blk_frozen HM.out.1 2
    have f3' := blk_frozen HM.out.1 3
    have f4' := blk_frozen HM.out.1 4
    have b0' := (blk_cell HM.out.2.1 1).trans rfl
    have o0' := (blk_cell HM.out.2.2.1 0).trans rfl
    have o1' := (blk_cell HM.out.2.2.1 1).trans rfl
    have o2' := (blk_cell HM.out.2.2.1 2).trans rfl
    have o3' := (blk_cell HM.out.2.2.1 3).trans rfl
    have o4' := (blk_cell HM.out.2.2.1 4).trans rfl
    have of1' := blk_frozen HM.out.2.2.1 1
    have of2' := blk_frozen HM.out.2.2.1 2
    have of3' := blk_frozen HM.out.2.2.1 3
    have of4' := blk_frozen HM.out.2.2.1 4
    have a0' := (blk_cell HM.out.2.2.2.1 0).trans rfl
    have a1' := (blk_cell HM.out.2.2.2.1 1).trans rfl
    have af0' := blk_frozen HM.out.2.2.2.1 0
    have af1' := blk_frozen HM.out.2.2.2.1 1
    have t0' := blk_lt HM.out.1
    have t1' := blk_lt HM.out.2.1
    have t2' := blk_lt HM.out.2.2.1
    have t3' := blk_lt HM.out.2.2.2.1
    go_wp2
    refine bodyPost_ret (results_ctt rfl _ _ w.heap.size 27 (opCells 0 0 0 0 0) (0, 0) _ rfl (set_blk (HM.out).1) Tryd.underlying27 rfl (by kernel_rfl)) rfl ?_
    exact ⟨rfl, same_below (HM.out).2.2.2.2⟩
  have pj1 : (2 : Int) < (l.length : Int) := by have := HL.out; omega
  have HL' := Aside0.mk (show 2 < l.length by omega)
  clear HL
  have HL := HL'
  clear HL'
  have pk1 := eq_true pj1
  have pd1 := decide_eq_true pj1
  have hcw : W0.cell? ⟨ad.block, ad.off + 2, none⟩ = some (.string (rdOf ByteArray.empty l 2)) := by
    have h := HC.out 2 (by omega) (by omega)
    exact (HM.out.2.2.2.2.cell (p := ⟨ad.block, ad.off + 2, none⟩) had).trans (by simpa [Addr.add] using h)
  have hR := HR.out
  unfold runSteps at hR
  rw [if_neg cj1] at hR
  obtain ⟨⟨y1, e1v⟩, hs, hR⟩ := Option.bind_eq_some_iff.1 hR
  have HT := Aside0.mk (show stepF .result (rdOf ByteArray.empty l 2) (0, 0, 0, 0) = some (y1, e1v) from hs)
  have HR' := Aside0.mk hR
  clear hR hs HR cj1
  have c0' := (blk_cell HM.out.1 0).trans rfl
  have c1' := (blk_cell HM.out.1 1).trans rfl
  have c2' := (blk_cell HM.out.1 2).trans rfl
  have c3' := (blk_cell HM.out.1 3).trans rfl
  have c4' := (blk_cell HM.out.1 4).trans rfl
  have f0' := blk_frozen HM.out.1 0
  have f1' := blk_frozen HM.out.1 1
  have f2' := blk_frozen HM.out.1 2
  have f3' := blk_frozen HM.out.1 3
  have f4' := blk_frozen HM.out.1 4
  have b0' := (blk_cell HM.out.2.1 1).trans rfl
  have o0' := (blk_cell HM.out.2.2.1 0).trans rfl
  have o1' := (blk_cell HM.out.2.2.1 1).trans rfl
  have o2' := (blk_cell HM.out.2.2.1 2).trans rfl
  have o3' := (blk_cell HM.out.2.2.1 3).trans rfl
  have o4' := (blk_cell HM.out.2.2.1 4).trans rfl
  have of1' := blk_frozen HM.out.2.2.1 1
  have of2' := blk_frozen HM.out.2.2.1 2
  have of3' := blk_frozen HM.out.2.2.1 3
  have of4' := blk_frozen HM.out.2.2.1 4
  have a0' := (blk_cell HM.out.2.2.2.1 0).trans rfl
  have a1' := (blk_cell HM.out.2.2.2.1 1).trans rfl
  have af0' := blk_frozen HM.out.2.2.2.1 0
  have af1' := blk_frozen HM.out.2.2.2.1 1
  have t0' := blk_lt HM.out.1
  have t1' := blk_lt HM.out.2.1
  have t2' := blk_lt HM.out.2.2.1
  have t3' := blk_lt HM.out.2.2.2.1
  go_wp2_with fail
  refine (returns_at _ (0, 0, 0, 0) y1 e1v HT.out _).mono ?_
  rintro e V1 ⟨rfl, hb⟩
  clear c0' c1' c2' c3' c4' f0' f1' f2' f3' f4' b0' o0' o1' o2' o3' o4' of1' of2' of3' of4' a0' a1' af0' af1' t0' t1' t2' t3'
  have HM' := Aside0.mk (HM.out.below hb)
  clear hb HM hcw
  have HM := HM'
  clear HM'
  have c0' := (blk_cell HM.out.1 0).trans rfl
  have c1' := (blk_cell HM.out.1 1).trans rfl
  have c2' := (blk_cell HM.out.1 2).trans rfl
  have c3' := (blk_cell HM.out.1 3).trans rfl
  have c4' := (blk_cell HM.out.1 4).trans rfl
  have f0' := blk_frozen HM.out.1 0
  have f1' := blk_frozen HM.out.1 1
  have f2' := blk_frozen HM.out.1 2
  have f3' := blk_frozen HM.out.1 3
  have f4' := blk_frozen HM.out.1 4
  have b0' := (blk_cell HM.out.2.1 1).trans rfl
  have o0' := (blk_cell HM.out.2.2.1 0).trans rfl
  have o1' := (blk_cell HM.out.2.2.1 1).trans rfl
  have o2' := (blk_cell HM.out.2.2.1 2).trans rfl
  have o3' := (blk_cell HM.out.2.2.1 3).trans rfl
  have o4' := (blk_cell HM.out.2.2.1 4).trans rfl
  have of1' := blk_frozen HM.out.2.2.1 1
  have of2' := blk_frozen HM.out.2.2.1 2
  have of3' := blk_frozen HM.out.2.2.1 3
  have of4' := blk_frozen HM.out.2.2.1 4
  have a0' := (blk_cell HM.out.2.2.2.1 0).trans rfl
  have a1' := (blk_cell HM.out.2.2.2.1 1).trans rfl
  have af0' := blk_frozen HM.out.2.2.2.1 0
  have af1' := blk_frozen HM.out.2.2.2.1 1
  have t0' := blk_lt HM.out.1
  have t1' := blk_lt HM.out.2.1
  have t2' := blk_lt HM.out.2.2.1
  have t3' := blk_lt HM.out.2.2.2.1
  by_cases ce : e1v = 0
  rotate_left 1
  · have e9 : e1v = 9 := by rcases step_e HT.out with h | h; exact absurd h ce; exact h
    subst e9
    clear HT ce
    have hR := HR'.out
    rw [if_neg (show ¬ (9 : Int) = 0 by decide)] at hR
    have hR := (Option.some.inj hR).symm
    have hE := HE.out
    rw [hR] at hE
    unfold endRead at hE
    rw [if_pos (show (9 : Int) ≠ 0 by decide)] at hE
    simp only [Option.some.injEq, Prod.mk.injEq] at hE
    obtain ⟨rfl, rfl, rfl, rfl, rfl, rfl, rfl⟩ := hE
    go_wp2
    refine bodyPost_ret (results_ctt rfl _ _ w.heap.size 27 (opCells 0 0 0 0 0) (0, 0) _ rfl (set_blk (HM.out.ret (by omega) (by omega) (by omega) y1.2.2.1 y1.2.2.2).1) Tryd.underlying27 rfl (by kernel_rfl)) rfl ?_
    exact ⟨rfl, same_below (HM.out.ret (by omega) (by omega) (by omega) y1.2.2.1 y1.2.2.2).2.2.2.2⟩
  subst ce
  have hkeep := step_keep HT.out
  have hR := HR'.out
  rw [if_pos rfl] at hR
  have HR := Aside0.mk (show runSteps l [] 2 y1 = some R from hR)
  clear HR' hR
  go_wp2_with fail
  refine then_world (RefMem w gk (gk + 1) (gk + 1 + 1) #[.int .i64 typ, .int .i64 0, .int .i64 ret, .string word] k y1) (step_mem (HM.out.ret (by omega) (by omega) (by omega) y1.2.2.1 y1.2.2.2) hkeep) fun W2 HF => ?_
  clear c0' c1' c2' c3' c4' f0' f1' f2' f3' f4' b0' o0' o1' o2' o3' o4' of1' of2' of3' of4' a0' a1' af0' af1' t0' t1' t2' t3'
  have HM' := Aside0.mk HF
  clear HF HM pj1 pk1 pd1 HT hkeep
  have HM := HM'
  clear HM'
  rw [rounds_succ]
  have hR := (Option.some.inj HR.out).symm
  have hE := HE.out
  rw [hR] at hE
  unfold endRead at hE
  rw [if_neg (show ¬ (0 : Int) ≠ 0 by decide)] at hE
  clear hR HR HE
  have c0' := (blk_cell HM.out.1 0).trans rfl
  have c1' := (blk_cell HM.out.1 1).trans rfl
  have c2' := (blk_cell HM.out.1 2).trans rfl
  have c3' := (blk_cell HM.out.1 3).trans rfl
  have c4' := (blk_cell HM.out.1 4).trans rfl
  have f0' := blk_frozen HM.out.1 0
  have f1' := blk_frozen HM.out.1 1
  have f2' := blk_frozen HM.out.1 2
  have f3' := blk_frozen HM.out.1 3
  have f4' := blk_frozen HM.out.1 4
  have b0' := (blk_cell HM.out.2.1 1).trans rfl
  have o0' := (blk_cell HM.out.2.2.1 0).trans rfl
  have o1' := (blk_cell HM.out.2.2.1 1).trans rfl
  have o2' := (blk_cell HM.out.2.2.1 2).trans rfl
  have o3' := (blk_cell HM.out.2.2.1 3).trans rfl
  have o4' := (blk_cell HM.out.2.2.1 4).trans rfl
  have of1' := blk_frozen HM.out.2.2.1 1
  have of2' := blk_frozen HM.out.2.2.1 2
  have of3' := blk_frozen HM.out.2.2.1 3
  have of4' := blk_frozen HM.out.2.2.1 4
  have a0' := (blk_cell HM.out.2.2.2.1 0).trans rfl
  have a1' := (blk_cell HM.out.2.2.2.1 1).trans rfl
  have af0' := blk_frozen HM.out.2.2.2.1 0
  have af1' := blk_frozen HM.out.2.2.2.1 1
  have t0' := blk_lt HM.out.1
  have t1' := blk_lt HM.out.2.1
  have t2' := blk_lt HM.out.2.2.1
  have t3' := blk_lt HM.out.2.2.2.1
  by_cases cl : 2 + 1 < l.length
  · have g1 : decide ((3 : Int) < (l.length : Int)) = true := decide_eq_true (by omega)
    have g2 : ((l.length : Int) != 3) = true := bne_iff_ne.2 (by omega)
    have g3 : min (l.length : Int) 3 = 3 := by omega
    have g4 : (3 : Int) < (l.length : Int) := by omega
    rw [if_pos cl] at hE
    simp only [Option.some.injEq, Prod.mk.injEq] at hE
    obtain ⟨rfl, rfl, rfl, rfl, rfl, rfl, rfl⟩ := hE
    clear cl p1 p2 p3
    go_wp2
    refine bodyPost_ret (results_ctt rfl _ _ w.heap.size 27 (opCells 0 0 0 0 0) (0, 0) _ rfl (set_blk (HM.out).1) Tryd.underlying27 rfl (by kernel_rfl)) rfl ?_
    exact ⟨rfl, same_below (HM.out).2.2.2.2⟩
  have hlen : (l.length : Int) = 3 := by have := HL.out; omega
  rw [if_neg cl] at hE
  clear cl p1 p2 p3
  obtain ⟨c, hck, hE⟩ := Option.bind_eq_some_iff.1 hE
  have HE := Aside0.mk hE
  have HCK := Aside0.mk hck
  clear hE hck
  go_wp2_with fail
  refine (armisticeref04_Check.calls 30 k y1.1 y1.2.1 y1.2.2.1 y1.2.2.2 c _ ((check_eq _ _ _ _ _ 28).trans HCK.out)).mono ?_
  rintro e W9 ⟨rfl, hb⟩
  clear c0' c1' c2' c3' c4' f0' f1' f2' f3' f4' b0' o0' o1' o2' o3' o4' of1' of2' of3' of4' a0' a1' af0' af1' t0' t1' t2' t3'
  have HF := HM.out.full (by omega) (by omega) (by omega)
  have HZ := Aside0.mk (blk_below HF.1 hb)
  have HO := Aside0.mk (blk_below HF.2.1 hb)
  have HB := Aside0.mk (HF.2.2.trans (hb.mono HF.2.2.size))
  clear HF hb HM
  have c0' := (blk_cell HZ.out 0).trans rfl
  have c1' := (blk_cell HZ.out 1).trans rfl
  have c2' := (blk_cell HZ.out 2).trans rfl
  have c3' := (blk_cell HZ.out 3).trans rfl
  have c4' := (blk_cell HZ.out 4).trans rfl
  have f0' := blk_frozen HZ.out 0
  have f1' := blk_frozen HZ.out 1
  have f2' := blk_frozen HZ.out 2
  have f3' := blk_frozen HZ.out 3
  have f4' := blk_frozen HZ.out 4
  have o0' := (blk_cell HO.out 0).trans rfl
  have o1' := (blk_cell HO.out 1).trans rfl
  have o2' := (blk_cell HO.out 2).trans rfl
  have o3' := (blk_cell HO.out 3).trans rfl
  have o4' := (blk_cell HO.out 4).trans rfl
  have t0' := blk_lt HZ.out
  have t2' := blk_lt HO.out
  have hE := HE.out
  rcases check_vals HKK.out HCK.out with rfl | rfl | rfl
  · rw [if_pos rfl] at hE
    simp only [Option.some.injEq, Prod.mk.injEq] at hE
    obtain ⟨rfl, rfl, rfl, rfl, rfl, rfl, rfl⟩ := hE
    go_wp2
    refine bodyPost_ret (results_ctt rfl _ _ w.heap.size 27 (opCells k y1.1 y1.2.1 y1.2.2.1 y1.2.2.2) (0, 0) _ rfl (set_blk HZ.out) Tryd.underlying27 rfl (by kernel_rfl)) rfl ?_
    exact ⟨rfl, same_below HB.out⟩
  · rw [if_neg (by decide), if_pos rfl] at hE
    simp only [Option.some.injEq, Prod.mk.injEq] at hE
    obtain ⟨rfl, rfl, rfl, rfl, rfl, rfl, rfl⟩ := hE
    go_wp2
    refine bodyPost_ret (results_ctt rfl _ _ w.heap.size 27 (opCells 0 0 0 0 0) (0, 0) _ rfl (set_blk HZ.out) Tryd.underlying27 rfl (by kernel_rfl)) rfl ?_
    exact ⟨rfl, same_below HB.out⟩
  · rw [if_neg (by decide), if_neg (by decide), if_pos rfl] at hE
    simp only [Option.some.injEq, Prod.mk.injEq] at hE
    obtain ⟨rfl, rfl, rfl, rfl, rfl, rfl, rfl⟩ := hE
    go_wp2
    refine bodyPost_ret (results_ctt rfl _ _ w.heap.size 27 (opCells 0 0 0 0 0) (0, 0) _ rfl (set_blk HZ.out) Tryd.underlying27 rfl (by kernel_rfl)) rfl ?_
    exact ⟨rfl, same_below HB.out⟩
set_option maxHeartbeats 4000000 in
set_option maxRecDepth 100000 in
theorem refread_1 (typ ret : Int) (word : ByteArray) (ad : Addr) (c0 : Nat) (l : List ByteArray) (hl : 0 < l.length) (hl2 : l.length ≤ 9223372036854775807) (hc0 : l.length ≤ c0) (k : Int) (hk : 1 ≤ k ∧ k ≤ 15) (w : World) (had : ad.block < w.heap.size)
    (hcell : ∀ i : Int, 0 ≤ i → i < l.length → w.cell? (ad.add i.toNat) = some (.string (rdOf ByteArray.empty l i)))
    (hkind : ∀ W, Calls Tryd.prog 21 #[.string (rdOf ByteArray.empty l 0)] W fun e w' => e = .returned (.tuple #[.int .i64 k, .int .i64 0]) ∧ Below W.heap.size W w')
    (hof : ∀ W, Calls Tryd.prog 32 #[.int .i64 k] W fun e w' => e = .returned (.tuple #[.agg #[.int .i64 typ, .int .i64 1, .int .i64 ret, .string word], .bool true]) ∧ Below W.heap.size W w')
    (R : (Int × Int × Int × Int) × Nat × Int) (hR : runSteps l [.first, .arrow, .result] 0 (0, 0, 0, 0) = some R) (r1 r2 r3 r4 r5 r6 r7 : Int) (hE : endRead l 3 k R = some (r1, r2, r3, r4, r5, r6, r7)) :
    Calls Tryd.prog 10 #[.slice (some ad) l.length c0] w fun e w' => e = .returned (.tuple #[.agg #[.int .i64 r1, .int .i64 r2, .int .i64 r3, .int .i64 r4, .int .i64 r5], .int .i64 r6, .int .i64 r7]) ∧ Below w.heap.size w w' := by
  have HK := Aside0.mk hkind
  have HY := Aside0.mk hof
  have HC := Aside0.mk hcell
  have HR := Aside0.mk hR
  have HE := Aside0.mk hE
  have HKK := Aside0.mk hk
  have HL := Aside0.mk hl
  have HL2 := Aside0.mk hl2
  clear hkind hof hcell hR hE hk hl2
  have p1 : ((l.length : Int) == 0) = false := beq_eq_false_iff_ne.2 (by omega)
  have p2 : (0 : Int) < (l.length : Int) := by omega
  have p3 := eq_true p2
  clear hl
  have hcw : w.cell? ad = some (.string (rdOf ByteArray.empty l 0)) := by
    have := HC.out 0 (by omega) (by omega)
    simpa [Addr.add] using this
  go_enter Tryd.func10, Tryd.ntmps10
  go_wp2_with fail
  refine (HK.out _).mono ?_
  rintro e w2 ⟨rfl, hb2⟩
  have HZ2 := Aside0.mk (blk_below (blk_new w _) hb2)
  have HB2 := Aside0.mk (((Below.refl _ w).alloc (Nat.le_refl _) _).trans (hb2.mono (by simp)))
  clear hb2
  go_wp2_with fail
  refine (HY.out _).mono ?_
  rintro e w3 ⟨rfl, hb3⟩
  have HZ3 := Aside0.mk (blk_below HZ2.out hb3)
  have HB3 := Aside0.mk (HB2.out.trans (hb3.mono HB2.out.size))
  have hBW3 : w.heap.size < w3.heap.size := blk_lt HZ3.out
  clear hb3 hcw
  go_wp2_with fail
  refine then_world (RefMem w w3.heap.size (w3.heap.size + 1) (w3.heap.size + 1 + 1) #[.int .i64 typ, .int .i64 1, .int .i64 ret, .string word] k (0, 0, 0, 0)) (refmem_new w w3 _ k HZ3.out HB3.out hBW3) fun W0 HF => ?_
  have n1 : w.heap.size < w3.heap.size := hBW3
  have HM := Aside0.mk HF
  clear HZ2 HZ3 HB2 HB3 HF hBW3
  obtain ⟨gk, hgk⟩ : ∃ gk, gk = w3.heap.size := ⟨_, rfl⟩
  rw [← hgk] at HM n1 ⊢
  have d1 : w.heap.size ≠ gk := by omega
  have d2 : w.heap.size ≠ gk + 1 := by omega
  have d3 : w.heap.size ≠ gk + 1 + 1 := by omega
  have d4 : gk ≠ gk + 1 := by omega
  have d5 : gk ≠ gk + 1 + 1 := by omega
  have d6 : gk + 1 ≠ gk + 1 + 1 := by omega
  have d1' := Ne.symm d1
  have d2' := Ne.symm d2
  have d3' := Ne.symm d3
  have d4' := Ne.symm d4
  have d5' := Ne.symm d5
  have d6' := Ne.symm d6
  clear hgk
  refine wp_loop_rounds 4 ?_
  rw [rounds_succ]
  by_cases cj0 : 0 + 1 = l.length
  · have hlen : (l.length : Int) = 1 := by omega
    have hR := HR.out
    unfold runSteps at hR
    rw [if_pos cj0] at hR
    have hR := (Option.some.inj hR).symm
    have hE := HE.out
    rw [hR] at hE
    unfold endRead at hE
    rw [if_pos (show (5 : Int) ≠ 0 by decide)] at hE
    simp only [Option.some.injEq, Prod.mk.injEq] at hE
    obtain ⟨rfl, rfl, rfl, rfl, rfl, rfl, rfl⟩ := hE
    clear cj0 p1 p2 p3
    have c0' := (blk_cell HM.out.1 0).trans rfl
    have c1' := (blk_cell HM.out.1 1).trans rfl
    have c2' := (blk_cell HM.out.1 2).trans rfl
    have c3' := (blk_cell HM.out.1 3).trans rfl
    have c4' := (blk_cell HM.out.1 4).trans rfl
    have f0' := blk_frozen HM.out.1 0
    have f1' := blk_frozen HM.out.1 1
    have f2' := blk_frozen HM.out.1 2
    have f3' := blk_frozen HM.out.1 3
    have f4' := blk_frozen HM.out.1 4
    have b0' := (blk_cell HM.out.2.1 1).trans rfl
    have o0' := (blk_cell HM.out.2.2.1 0).trans rfl
    have o1' := (blk_cell HM.out.2.2.1 1).trans rfl
    have o2' := (blk_cell HM.out.2.2.1 2).trans rfl
    have o3' := (blk_cell HM.out.2.2.1 3).trans rfl
    have o4' := (blk_cell HM.out.2.2.1 4).trans rfl
    have of1' := blk_frozen HM.out.2.2.1 1
    have of2' := blk_frozen HM.out.2.2.1 2
    have of3' := blk_frozen HM.out.2.2.1 3
    have of4' := blk_frozen HM.out.2.2.1 4
    have a0' := (blk_cell HM.out.2.2.2.1 0).trans rfl
    have a1' := (blk_cell HM.out.2.2.2.1 1).trans rfl
    have af0' := blk_frozen HM.out.2.2.2.1 0
    have af1' := blk_frozen HM.out.2.2.2.1 1
    have t0' := blk_lt HM.out.1
    have t1' := blk_lt HM.out.2.1
    have t2' := blk_lt HM.out.2.2.1
    have t3' := blk_lt HM.out.2.2.2.1
    go_wp2
    refine bodyPost_ret (results_ctt rfl _ _ w.heap.size 27 (opCells 0 0 0 0 0) (0, 0) _ rfl (set_blk (HM.out).1) Tryd.underlying27 rfl (by kernel_rfl)) rfl ?_
    exact ⟨rfl, same_below (HM.out).2.2.2.2⟩
  have pj0 : (1 : Int) < (l.length : Int) := by have := HL.out; omega
  have HL' := Aside0.mk (show 1 < l.length by omega)
  clear HL
  have HL := HL'
  clear HL'
  have pk0 := eq_true pj0
  have pd0 := decide_eq_true pj0
  have hcw : W0.cell? ⟨ad.block, ad.off + 1, none⟩ = some (.string (rdOf ByteArray.empty l 1)) := by
    have h := HC.out 1 (by omega) (by omega)
    exact (HM.out.2.2.2.2.cell (p := ⟨ad.block, ad.off + 1, none⟩) had).trans (by simpa [Addr.add] using h)
  have hR := HR.out
  unfold runSteps at hR
  rw [if_neg cj0] at hR
  obtain ⟨⟨y0, e0v⟩, hs, hR⟩ := Option.bind_eq_some_iff.1 hR
  have HT := Aside0.mk (show stepF .first (rdOf ByteArray.empty l 1) (0, 0, 0, 0) = some (y0, e0v) from hs)
  have HR' := Aside0.mk hR
  clear hR hs HR cj0
  have c0' := (blk_cell HM.out.1 0).trans rfl
  have c1' := (blk_cell HM.out.1 1).trans rfl
  have c2' := (blk_cell HM.out.1 2).trans rfl
  have c3' := (blk_cell HM.out.1 3).trans rfl
  have c4' := (blk_cell HM.out.1 4).trans rfl
  have f0' := blk_frozen HM.out.1 0
  have f1' := blk_frozen HM.out.1 1
  have f2' := blk_frozen HM.out.1 2
  have f3' := blk_frozen HM.out.1 3
  have f4' := blk_frozen HM.out.1 4
  have b0' := (blk_cell HM.out.2.1 1).trans rfl
  have o0' := (blk_cell HM.out.2.2.1 0).trans rfl
  have o1' := (blk_cell HM.out.2.2.1 1).trans rfl
  have o2' := (blk_cell HM.out.2.2.1 2).trans rfl
  have o3' := (blk_cell HM.out.2.2.1 3).trans rfl
  have o4' := (blk_cell HM.out.2.2.1 4).trans rfl
  have of1' := blk_frozen HM.out.2.2.1 1
  have of2' := blk_frozen HM.out.2.2.1 2
  have of3' := blk_frozen HM.out.2.2.1 3
  have of4' := blk_frozen HM.out.2.2.1 4
  have a0' := (blk_cell HM.out.2.2.2.1 0).trans rfl
  have a1' := (blk_cell HM.out.2.2.2.1 1).trans rfl
  have af0' := blk_frozen HM.out.2.2.2.1 0
  have af1' := blk_frozen HM.out.2.2.2.1 1
  have t0' := blk_lt HM.out.1
  have t1' := blk_lt HM.out.2.1
  have t2' := blk_lt HM.out.2.2.1
  have t3' := blk_lt HM.out.2.2.2.1
  obtain ⟨⟨n0, ev0⟩, hw, hy⟩ := Option.bind_eq_some_iff.1 HT.out
  simp only [Option.some.injEq, Prod.mk.injEq] at hy
  obtain ⟨rfl, rfl⟩ := hy
  have HW := Aside0.mk hw
  clear hw HT
  go_wp2_with fail
  refine (number_at _ _ _ HW.out _).mono ?_
  rintro e V0 ⟨rfl, hb⟩
  clear c0' c1' c2' c3' c4' f0' f1' f2' f3' f4' b0' o0' o1' o2' o3' o4' of1' of2' of3' of4' a0' a1' af0' af1' t0' t1' t2' t3'
  have HM' := Aside0.mk (HM.out.below hb)
  clear hb HM hcw
  have HM := HM'
  clear HM'
  have c0' := (blk_cell HM.out.1 0).trans rfl
  have c1' := (blk_cell HM.out.1 1).trans rfl
  have c2' := (blk_cell HM.out.1 2).trans rfl
  have c3' := (blk_cell HM.out.1 3).trans rfl
  have c4' := (blk_cell HM.out.1 4).trans rfl
  have f0' := blk_frozen HM.out.1 0
  have f1' := blk_frozen HM.out.1 1
  have f2' := blk_frozen HM.out.1 2
  have f3' := blk_frozen HM.out.1 3
  have f4' := blk_frozen HM.out.1 4
  have b0' := (blk_cell HM.out.2.1 1).trans rfl
  have o0' := (blk_cell HM.out.2.2.1 0).trans rfl
  have o1' := (blk_cell HM.out.2.2.1 1).trans rfl
  have o2' := (blk_cell HM.out.2.2.1 2).trans rfl
  have o3' := (blk_cell HM.out.2.2.1 3).trans rfl
  have o4' := (blk_cell HM.out.2.2.1 4).trans rfl
  have of1' := blk_frozen HM.out.2.2.1 1
  have of2' := blk_frozen HM.out.2.2.1 2
  have of3' := blk_frozen HM.out.2.2.1 3
  have of4' := blk_frozen HM.out.2.2.1 4
  have a0' := (blk_cell HM.out.2.2.2.1 0).trans rfl
  have a1' := (blk_cell HM.out.2.2.2.1 1).trans rfl
  have af0' := blk_frozen HM.out.2.2.2.1 0
  have af1' := blk_frozen HM.out.2.2.2.1 1
  have t0' := blk_lt HM.out.1
  have t1' := blk_lt HM.out.2.1
  have t2' := blk_lt HM.out.2.2.1
  have t3' := blk_lt HM.out.2.2.2.1
  by_cases ce : ev0 = 0
  rotate_left 1
  · have e5 : ev0 = 5 := by rcases whole_e HW.out with h | h <;> omega
    subst e5
    clear HW ce
    have hR := HR'.out
    rw [if_neg (show ¬ (5 : Int) = 0 by decide)] at hR
    have hR := (Option.some.inj hR).symm
    have hE := HE.out
    rw [hR] at hE
    unfold endRead at hE
    rw [if_pos (show (5 : Int) ≠ 0 by decide)] at hE
    simp only [Option.some.injEq, Prod.mk.injEq] at hE
    obtain ⟨rfl, rfl, rfl, rfl, rfl, rfl, rfl⟩ := hE
    go_wp2
    refine bodyPost_ret (results_ctt rfl _ _ w.heap.size 27 (opCells 0 0 0 0 0) (0, 0) _ rfl (set_blk (HM.out.arg0 (by omega) (by omega) (by omega) n0).1) Tryd.underlying27 rfl (by kernel_rfl)) rfl ?_
    exact ⟨rfl, same_below (HM.out.arg0 (by omega) (by omega) (by omega) n0).2.2.2.2⟩
  subst ce
  have hR := HR'.out
  rw [if_pos rfl] at hR
  have HR := Aside0.mk (show runSteps l [.arrow, .result] 1 (n0, 0, 0, 0) = some R from hR)
  clear HR' hR
  go_wp2_with fail
  refine then_world (RefMem w gk (gk + 1) (gk + 1 + 1) #[.int .i64 typ, .int .i64 1, .int .i64 ret, .string word] k (n0, 0, 0, 0)) (HM.out.arg0 (by omega) (by omega) (by omega) n0) fun W1 HF => ?_
  clear c0' c1' c2' c3' c4' f0' f1' f2' f3' f4' b0' o0' o1' o2' o3' o4' of1' of2' of3' of4' a0' a1' af0' af1' t0' t1' t2' t3'
  have HM' := Aside0.mk HF
  clear HF HM pj0 pk0 pd0
  have HM := HM'
  clear HM'
  rw [rounds_succ]
  by_cases cj1 : 1 + 1 = l.length
  · have hlen : (l.length : Int) = 2 := by omega
    have hR := HR.out
    unfold runSteps at hR
    rw [if_pos cj1] at hR
    have hR := (Option.some.inj hR).symm
    have hE := HE.out
    rw [hR] at hE
    unfold endRead at hE
    rw [if_pos (show (5 : Int) ≠ 0 by decide)] at hE
    simp only [Option.some.injEq, Prod.mk.injEq] at hE
    obtain ⟨rfl, rfl, rfl, rfl, rfl, rfl, rfl⟩ := hE
    clear cj1 p1 p2 p3
    have c0' := (blk_cell HM.out.1 0).trans rfl
    have c1' := (blk_cell HM.out.1 1).trans rfl
    have c2' := (blk_cell HM.out.1 2).trans rfl
    have c3' := (blk_cell HM.out.1 3).trans rfl
    have c4' := (blk_cell HM.out.1 4).trans rfl
    have f0' := blk_frozen HM.out.1 0
    have f1' := blk_frozen HM.out.1 1
    have f2' := blk_frozen HM.out.1 2
    have f3' := blk_frozen HM.out.1 3
    have f4' := blk_frozen HM.out.1 4
    have b0' := (blk_cell HM.out.2.1 1).trans rfl
    have o0' := (blk_cell HM.out.2.2.1 0).trans rfl
    have o1' := (blk_cell HM.out.2.2.1 1).trans rfl
    have o2' := (blk_cell HM.out.2.2.1 2).trans rfl
    have o3' := (blk_cell HM.out.2.2.1 3).trans rfl
    have o4' := (blk_cell HM.out.2.2.1 4).trans rfl
    have of1' := blk_frozen HM.out.2.2.1 1
    have of2' := blk_frozen HM.out.2.2.1 2
    have of3' := blk_frozen HM.out.2.2.1 3
    have of4' := blk_frozen HM.out.2.2.1 4
    have a0' := (blk_cell HM.out.2.2.2.1 0).trans rfl
    have a1' := (blk_cell HM.out.2.2.2.1 1).trans rfl
    have af0' := blk_frozen HM.out.2.2.2.1 0
    have af1' := blk_frozen HM.out.2.2.2.1 1
    have t0' := blk_lt HM.out.1
    have t1' := blk_lt HM.out.2.1
    have t2' := blk_lt HM.out.2.2.1
    have t3' := blk_lt HM.out.2.2.2.1
    go_wp2
    refine bodyPost_ret (results_ctt rfl _ _ w.heap.size 27 (opCells 0 0 0 0 0) (0, 0) _ rfl (set_blk (HM.out).1) Tryd.underlying27 rfl (by kernel_rfl)) rfl ?_
    exact ⟨rfl, same_below (HM.out).2.2.2.2⟩
  have pj1 : (2 : Int) < (l.length : Int) := by have := HL.out; omega
  have HL' := Aside0.mk (show 2 < l.length by omega)
  clear HL
  have HL := HL'
  clear HL'
  have pk1 := eq_true pj1
  have pd1 := decide_eq_true pj1
  have hcw : W1.cell? ⟨ad.block, ad.off + 2, none⟩ = some (.string (rdOf ByteArray.empty l 2)) := by
    have h := HC.out 2 (by omega) (by omega)
    exact (HM.out.2.2.2.2.cell (p := ⟨ad.block, ad.off + 2, none⟩) had).trans (by simpa [Addr.add] using h)
  have hR := HR.out
  unfold runSteps at hR
  rw [if_neg cj1] at hR
  obtain ⟨⟨y1, e1v⟩, hs, hR⟩ := Option.bind_eq_some_iff.1 hR
  have HT := Aside0.mk (show stepF .arrow (rdOf ByteArray.empty l 2) (n0, 0, 0, 0) = some (y1, e1v) from hs)
  have HR' := Aside0.mk hR
  clear hR hs HR cj1
  have c0' := (blk_cell HM.out.1 0).trans rfl
  have c1' := (blk_cell HM.out.1 1).trans rfl
  have c2' := (blk_cell HM.out.1 2).trans rfl
  have c3' := (blk_cell HM.out.1 3).trans rfl
  have c4' := (blk_cell HM.out.1 4).trans rfl
  have f0' := blk_frozen HM.out.1 0
  have f1' := blk_frozen HM.out.1 1
  have f2' := blk_frozen HM.out.1 2
  have f3' := blk_frozen HM.out.1 3
  have f4' := blk_frozen HM.out.1 4
  have b0' := (blk_cell HM.out.2.1 1).trans rfl
  have o0' := (blk_cell HM.out.2.2.1 0).trans rfl
  have o1' := (blk_cell HM.out.2.2.1 1).trans rfl
  have o2' := (blk_cell HM.out.2.2.1 2).trans rfl
  have o3' := (blk_cell HM.out.2.2.1 3).trans rfl
  have o4' := (blk_cell HM.out.2.2.1 4).trans rfl
  have of1' := blk_frozen HM.out.2.2.1 1
  have of2' := blk_frozen HM.out.2.2.1 2
  have of3' := blk_frozen HM.out.2.2.1 3
  have of4' := blk_frozen HM.out.2.2.1 4
  have a0' := (blk_cell HM.out.2.2.2.1 0).trans rfl
  have a1' := (blk_cell HM.out.2.2.2.1 1).trans rfl
  have af0' := blk_frozen HM.out.2.2.2.1 0
  have af1' := blk_frozen HM.out.2.2.2.1 1
  have t0' := blk_lt HM.out.1
  have t1' := blk_lt HM.out.2.1
  have t2' := blk_lt HM.out.2.2.1
  have t3' := blk_lt HM.out.2.2.2.1
  have ht := HT.out
  unfold stepF at ht
  simp only [Option.some.injEq, Prod.mk.injEq] at ht
  obtain ⟨hy, he⟩ := ht
  subst hy
  by_cases ca : (rdOf ByteArray.empty l 2).toList = [45, 62]
  rotate_left 1
  · rw [if_neg ca] at he
    subst he
    have cb := beq_eq_false_iff_ne.2 ca
    have hR := HR'.out
    rw [if_neg (show ¬ (5 : Int) = 0 by decide)] at hR
    have hR := (Option.some.inj hR).symm
    have hE := HE.out
    rw [hR] at hE
    unfold endRead at hE
    rw [if_pos (show (5 : Int) ≠ 0 by decide)] at hE
    simp only [Option.some.injEq, Prod.mk.injEq] at hE
    obtain ⟨rfl, rfl, rfl, rfl, rfl, rfl, rfl⟩ := hE
    clear HT ca
    go_wp2
    refine bodyPost_ret (results_ctt rfl _ _ w.heap.size 27 (opCells 0 0 0 0 0) (0, 0) _ rfl (set_blk (HM.out).1) Tryd.underlying27 rfl (by kernel_rfl)) rfl ?_
    exact ⟨rfl, same_below (HM.out).2.2.2.2⟩
  rw [if_pos ca] at he
  subst he
  have cb := beq_iff_eq.2 ca
  clear HT ca
  have hR := HR'.out
  rw [if_pos rfl] at hR
  have HR := Aside0.mk (show runSteps l [.result] 2 (n0, 0, 0, 0) = some R from hR)
  clear HR' hR
  go_wp2_with fail
  clear c0' c1' c2' c3' c4' f0' f1' f2' f3' f4' b0' o0' o1' o2' o3' o4' of1' of2' of3' of4' a0' a1' af0' af1' t0' t1' t2' t3'
  clear pj1 pk1 pd1 hcw cb
  rw [rounds_succ]
  by_cases cj2 : 2 + 1 = l.length
  · have hlen : (l.length : Int) = 3 := by omega
    have hR := HR.out
    unfold runSteps at hR
    rw [if_pos cj2] at hR
    have hR := (Option.some.inj hR).symm
    have hE := HE.out
    rw [hR] at hE
    unfold endRead at hE
    rw [if_pos (show (5 : Int) ≠ 0 by decide)] at hE
    simp only [Option.some.injEq, Prod.mk.injEq] at hE
    obtain ⟨rfl, rfl, rfl, rfl, rfl, rfl, rfl⟩ := hE
    clear cj2 p1 p2 p3
    have c0' := (blk_cell HM.out.1 0).trans rfl
    have c1' := (blk_cell HM.out.1 1).trans rfl
    have c2' := (blk_cell HM.out.1 2).trans rfl
    have c3' := (blk_cell HM.out.1 3).trans rfl
    have c4' := (blk_cell HM.out.1 4).trans rfl
    have f0' := blk_frozen HM.out.1 0
    have f1' := blk_frozen HM.out.1 1
    have f2' := blk_frozen HM.out.1 2
    have f3' := blk_frozen HM.out.1 3
    have f4' := blk_frozen HM.out.1 4
    have b0' := (blk_cell HM.out.2.1 1).trans rfl
    have o0' := (blk_cell HM.out.2.2.1 0).trans rfl
    have o1' := (blk_cell HM.out.2.2.1 1).trans rfl
    have o2' := (blk_cell HM.out.2.2.1 2).trans rfl
    have o3' := (blk_cell HM.out.2.2.1 3).trans rfl
    have o4' := (blk_cell HM.out.2.2.1 4).trans rfl
    have of1' := blk_frozen HM.out.2.2.1 1
    have of2' := blk_frozen HM.out.2.2.1 2
    have of3' := blk_frozen HM.out.2.2.1 3
    have of4' := blk_frozen HM.out.2.2.1 4
    have a0' := (blk_cell HM.out.2.2.2.1 0).trans rfl
    have a1' := (blk_cell HM.out.2.2.2.1 1).trans rfl
    have af0' := blk_frozen HM.out.2.2.2.1 0
    have af1' := blk_frozen HM.out.2.2.2.1 1
    have t0' := blk_lt HM.out.1
    have t1' := blk_lt HM.out.2.1
    have t2' := blk_lt HM.out.2.2.1
    have t3' := blk_lt HM.out.2.2.2.1
    go_wp2
    refine bodyPost_ret (results_ctt rfl _ _ w.heap.size 27 (opCells 0 0 0 0 0) (0, 0) _ rfl (set_blk (HM.out).1) Tryd.underlying27 rfl (by kernel_rfl)) rfl ?_
    exact ⟨rfl, same_below (HM.out).2.2.2.2⟩
  have pj2 : (3 : Int) < (l.length : Int) := by have := HL.out; omega
  have HL' := Aside0.mk (show 3 < l.length by omega)
  clear HL
  have HL := HL'
  clear HL'
  have pk2 := eq_true pj2
  have pd2 := decide_eq_true pj2
  have hcw : W1.cell? ⟨ad.block, ad.off + 3, none⟩ = some (.string (rdOf ByteArray.empty l 3)) := by
    have h := HC.out 3 (by omega) (by omega)
    exact (HM.out.2.2.2.2.cell (p := ⟨ad.block, ad.off + 3, none⟩) had).trans (by simpa [Addr.add] using h)
  have hR := HR.out
  unfold runSteps at hR
  rw [if_neg cj2] at hR
  obtain ⟨⟨y2, e2v⟩, hs, hR⟩ := Option.bind_eq_some_iff.1 hR
  have HT := Aside0.mk (show stepF .result (rdOf ByteArray.empty l 3) (n0, 0, 0, 0) = some (y2, e2v) from hs)
  have HR' := Aside0.mk hR
  clear hR hs HR cj2
  have c0' := (blk_cell HM.out.1 0).trans rfl
  have c1' := (blk_cell HM.out.1 1).trans rfl
  have c2' := (blk_cell HM.out.1 2).trans rfl
  have c3' := (blk_cell HM.out.1 3).trans rfl
  have c4' := (blk_cell HM.out.1 4).trans rfl
  have f0' := blk_frozen HM.out.1 0
  have f1' := blk_frozen HM.out.1 1
  have f2' := blk_frozen HM.out.1 2
  have f3' := blk_frozen HM.out.1 3
  have f4' := blk_frozen HM.out.1 4
  have b0' := (blk_cell HM.out.2.1 1).trans rfl
  have o0' := (blk_cell HM.out.2.2.1 0).trans rfl
  have o1' := (blk_cell HM.out.2.2.1 1).trans rfl
  have o2' := (blk_cell HM.out.2.2.1 2).trans rfl
  have o3' := (blk_cell HM.out.2.2.1 3).trans rfl
  have o4' := (blk_cell HM.out.2.2.1 4).trans rfl
  have of1' := blk_frozen HM.out.2.2.1 1
  have of2' := blk_frozen HM.out.2.2.1 2
  have of3' := blk_frozen HM.out.2.2.1 3
  have of4' := blk_frozen HM.out.2.2.1 4
  have a0' := (blk_cell HM.out.2.2.2.1 0).trans rfl
  have a1' := (blk_cell HM.out.2.2.2.1 1).trans rfl
  have af0' := blk_frozen HM.out.2.2.2.1 0
  have af1' := blk_frozen HM.out.2.2.2.1 1
  have t0' := blk_lt HM.out.1
  have t1' := blk_lt HM.out.2.1
  have t2' := blk_lt HM.out.2.2.1
  have t3' := blk_lt HM.out.2.2.2.1
  go_wp2_with fail
  refine (returns_at _ (n0, 0, 0, 0) y2 e2v HT.out _).mono ?_
  rintro e V2 ⟨rfl, hb⟩
  clear c0' c1' c2' c3' c4' f0' f1' f2' f3' f4' b0' o0' o1' o2' o3' o4' of1' of2' of3' of4' a0' a1' af0' af1' t0' t1' t2' t3'
  have HM' := Aside0.mk (HM.out.below hb)
  clear hb HM hcw
  have HM := HM'
  clear HM'
  have c0' := (blk_cell HM.out.1 0).trans rfl
  have c1' := (blk_cell HM.out.1 1).trans rfl
  have c2' := (blk_cell HM.out.1 2).trans rfl
  have c3' := (blk_cell HM.out.1 3).trans rfl
  have c4' := (blk_cell HM.out.1 4).trans rfl
  have f0' := blk_frozen HM.out.1 0
  have f1' := blk_frozen HM.out.1 1
  have f2' := blk_frozen HM.out.1 2
  have f3' := blk_frozen HM.out.1 3
  have f4' := blk_frozen HM.out.1 4
  have b0' := (blk_cell HM.out.2.1 1).trans rfl
  have o0' := (blk_cell HM.out.2.2.1 0).trans rfl
  have o1' := (blk_cell HM.out.2.2.1 1).trans rfl
  have o2' := (blk_cell HM.out.2.2.1 2).trans rfl
  have o3' := (blk_cell HM.out.2.2.1 3).trans rfl
  have o4' := (blk_cell HM.out.2.2.1 4).trans rfl
  have of1' := blk_frozen HM.out.2.2.1 1
  have of2' := blk_frozen HM.out.2.2.1 2
  have of3' := blk_frozen HM.out.2.2.1 3
  have of4' := blk_frozen HM.out.2.2.1 4
  have a0' := (blk_cell HM.out.2.2.2.1 0).trans rfl
  have a1' := (blk_cell HM.out.2.2.2.1 1).trans rfl
  have af0' := blk_frozen HM.out.2.2.2.1 0
  have af1' := blk_frozen HM.out.2.2.2.1 1
  have t0' := blk_lt HM.out.1
  have t1' := blk_lt HM.out.2.1
  have t2' := blk_lt HM.out.2.2.1
  have t3' := blk_lt HM.out.2.2.2.1
  by_cases ce : e2v = 0
  rotate_left 1
  · have e9 : e2v = 9 := by rcases step_e HT.out with h | h; exact absurd h ce; exact h
    subst e9
    clear HT ce
    have hR := HR'.out
    rw [if_neg (show ¬ (9 : Int) = 0 by decide)] at hR
    have hR := (Option.some.inj hR).symm
    have hE := HE.out
    rw [hR] at hE
    unfold endRead at hE
    rw [if_pos (show (9 : Int) ≠ 0 by decide)] at hE
    simp only [Option.some.injEq, Prod.mk.injEq] at hE
    obtain ⟨rfl, rfl, rfl, rfl, rfl, rfl, rfl⟩ := hE
    go_wp2
    refine bodyPost_ret (results_ctt rfl _ _ w.heap.size 27 (opCells 0 0 0 0 0) (0, 0) _ rfl (set_blk (HM.out.ret (by omega) (by omega) (by omega) y2.2.2.1 y2.2.2.2).1) Tryd.underlying27 rfl (by kernel_rfl)) rfl ?_
    exact ⟨rfl, same_below (HM.out.ret (by omega) (by omega) (by omega) y2.2.2.1 y2.2.2.2).2.2.2.2⟩
  subst ce
  have hkeep := step_keep HT.out
  have hR := HR'.out
  rw [if_pos rfl] at hR
  have HR := Aside0.mk (show runSteps l [] 3 y2 = some R from hR)
  clear HR' hR
  go_wp2_with fail
  refine then_world (RefMem w gk (gk + 1) (gk + 1 + 1) #[.int .i64 typ, .int .i64 1, .int .i64 ret, .string word] k y2) (step_mem (HM.out.ret (by omega) (by omega) (by omega) y2.2.2.1 y2.2.2.2) hkeep) fun W3 HF => ?_
  clear c0' c1' c2' c3' c4' f0' f1' f2' f3' f4' b0' o0' o1' o2' o3' o4' of1' of2' of3' of4' a0' a1' af0' af1' t0' t1' t2' t3'
  have HM' := Aside0.mk HF
  clear HF HM pj2 pk2 pd2 HT hkeep
  have HM := HM'
  clear HM'
  rw [rounds_succ]
  have hR := (Option.some.inj HR.out).symm
  have hE := HE.out
  rw [hR] at hE
  unfold endRead at hE
  rw [if_neg (show ¬ (0 : Int) ≠ 0 by decide)] at hE
  clear hR HR HE
  have c0' := (blk_cell HM.out.1 0).trans rfl
  have c1' := (blk_cell HM.out.1 1).trans rfl
  have c2' := (blk_cell HM.out.1 2).trans rfl
  have c3' := (blk_cell HM.out.1 3).trans rfl
  have c4' := (blk_cell HM.out.1 4).trans rfl
  have f0' := blk_frozen HM.out.1 0
  have f1' := blk_frozen HM.out.1 1
  have f2' := blk_frozen HM.out.1 2
  have f3' := blk_frozen HM.out.1 3
  have f4' := blk_frozen HM.out.1 4
  have b0' := (blk_cell HM.out.2.1 1).trans rfl
  have o0' := (blk_cell HM.out.2.2.1 0).trans rfl
  have o1' := (blk_cell HM.out.2.2.1 1).trans rfl
  have o2' := (blk_cell HM.out.2.2.1 2).trans rfl
  have o3' := (blk_cell HM.out.2.2.1 3).trans rfl
  have o4' := (blk_cell HM.out.2.2.1 4).trans rfl
  have of1' := blk_frozen HM.out.2.2.1 1
  have of2' := blk_frozen HM.out.2.2.1 2
  have of3' := blk_frozen HM.out.2.2.1 3
  have of4' := blk_frozen HM.out.2.2.1 4
  have a0' := (blk_cell HM.out.2.2.2.1 0).trans rfl
  have a1' := (blk_cell HM.out.2.2.2.1 1).trans rfl
  have af0' := blk_frozen HM.out.2.2.2.1 0
  have af1' := blk_frozen HM.out.2.2.2.1 1
  have t0' := blk_lt HM.out.1
  have t1' := blk_lt HM.out.2.1
  have t2' := blk_lt HM.out.2.2.1
  have t3' := blk_lt HM.out.2.2.2.1
  by_cases cl : 3 + 1 < l.length
  · have g1 : decide ((4 : Int) < (l.length : Int)) = true := decide_eq_true (by omega)
    have g2 : ((l.length : Int) != 4) = true := bne_iff_ne.2 (by omega)
    have g3 : min (l.length : Int) 4 = 4 := by omega
    have g4 : (4 : Int) < (l.length : Int) := by omega
    rw [if_pos cl] at hE
    simp only [Option.some.injEq, Prod.mk.injEq] at hE
    obtain ⟨rfl, rfl, rfl, rfl, rfl, rfl, rfl⟩ := hE
    clear cl p1 p2 p3
    go_wp2
    refine bodyPost_ret (results_ctt rfl _ _ w.heap.size 27 (opCells 0 0 0 0 0) (0, 0) _ rfl (set_blk (HM.out).1) Tryd.underlying27 rfl (by kernel_rfl)) rfl ?_
    exact ⟨rfl, same_below (HM.out).2.2.2.2⟩
  have hlen : (l.length : Int) = 4 := by have := HL.out; omega
  rw [if_neg cl] at hE
  clear cl p1 p2 p3
  obtain ⟨c, hck, hE⟩ := Option.bind_eq_some_iff.1 hE
  have HE := Aside0.mk hE
  have HCK := Aside0.mk hck
  clear hE hck
  go_wp2_with fail
  refine (armisticeref04_Check.calls 30 k y2.1 y2.2.1 y2.2.2.1 y2.2.2.2 c _ ((check_eq _ _ _ _ _ 28).trans HCK.out)).mono ?_
  rintro e W9 ⟨rfl, hb⟩
  clear c0' c1' c2' c3' c4' f0' f1' f2' f3' f4' b0' o0' o1' o2' o3' o4' of1' of2' of3' of4' a0' a1' af0' af1' t0' t1' t2' t3'
  have HF := HM.out.full (by omega) (by omega) (by omega)
  have HZ := Aside0.mk (blk_below HF.1 hb)
  have HO := Aside0.mk (blk_below HF.2.1 hb)
  have HB := Aside0.mk (HF.2.2.trans (hb.mono HF.2.2.size))
  clear HF hb HM
  have c0' := (blk_cell HZ.out 0).trans rfl
  have c1' := (blk_cell HZ.out 1).trans rfl
  have c2' := (blk_cell HZ.out 2).trans rfl
  have c3' := (blk_cell HZ.out 3).trans rfl
  have c4' := (blk_cell HZ.out 4).trans rfl
  have f0' := blk_frozen HZ.out 0
  have f1' := blk_frozen HZ.out 1
  have f2' := blk_frozen HZ.out 2
  have f3' := blk_frozen HZ.out 3
  have f4' := blk_frozen HZ.out 4
  have o0' := (blk_cell HO.out 0).trans rfl
  have o1' := (blk_cell HO.out 1).trans rfl
  have o2' := (blk_cell HO.out 2).trans rfl
  have o3' := (blk_cell HO.out 3).trans rfl
  have o4' := (blk_cell HO.out 4).trans rfl
  have t0' := blk_lt HZ.out
  have t2' := blk_lt HO.out
  have hE := HE.out
  rcases check_vals HKK.out HCK.out with rfl | rfl | rfl
  · rw [if_pos rfl] at hE
    simp only [Option.some.injEq, Prod.mk.injEq] at hE
    obtain ⟨rfl, rfl, rfl, rfl, rfl, rfl, rfl⟩ := hE
    go_wp2
    refine bodyPost_ret (results_ctt rfl _ _ w.heap.size 27 (opCells k y2.1 y2.2.1 y2.2.2.1 y2.2.2.2) (0, 0) _ rfl (set_blk HZ.out) Tryd.underlying27 rfl (by kernel_rfl)) rfl ?_
    exact ⟨rfl, same_below HB.out⟩
  · rw [if_neg (by decide), if_pos rfl] at hE
    simp only [Option.some.injEq, Prod.mk.injEq] at hE
    obtain ⟨rfl, rfl, rfl, rfl, rfl, rfl, rfl⟩ := hE
    go_wp2
    refine bodyPost_ret (results_ctt rfl _ _ w.heap.size 27 (opCells 0 0 0 0 0) (0, 0) _ rfl (set_blk HZ.out) Tryd.underlying27 rfl (by kernel_rfl)) rfl ?_
    exact ⟨rfl, same_below HB.out⟩
  · rw [if_neg (by decide), if_neg (by decide), if_pos rfl] at hE
    simp only [Option.some.injEq, Prod.mk.injEq] at hE
    obtain ⟨rfl, rfl, rfl, rfl, rfl, rfl, rfl⟩ := hE
    go_wp2
    refine bodyPost_ret (results_ctt rfl _ _ w.heap.size 27 (opCells 0 0 0 0 0) (0, 0) _ rfl (set_blk HZ.out) Tryd.underlying27 rfl (by kernel_rfl)) rfl ?_
    exact ⟨rfl, same_below HB.out⟩
set_option maxHeartbeats 4000000 in
set_option maxRecDepth 100000 in
theorem refread_2 (typ ret : Int) (word : ByteArray) (ad : Addr) (c0 : Nat) (l : List ByteArray) (hl : 0 < l.length) (hl2 : l.length ≤ 9223372036854775807) (hc0 : l.length ≤ c0) (k : Int) (hk : 1 ≤ k ∧ k ≤ 15) (w : World) (had : ad.block < w.heap.size)
    (hcell : ∀ i : Int, 0 ≤ i → i < l.length → w.cell? (ad.add i.toNat) = some (.string (rdOf ByteArray.empty l i)))
    (hkind : ∀ W, Calls Tryd.prog 21 #[.string (rdOf ByteArray.empty l 0)] W fun e w' => e = .returned (.tuple #[.int .i64 k, .int .i64 0]) ∧ Below W.heap.size W w')
    (hof : ∀ W, Calls Tryd.prog 32 #[.int .i64 k] W fun e w' => e = .returned (.tuple #[.agg #[.int .i64 typ, .int .i64 2, .int .i64 ret, .string word], .bool true]) ∧ Below W.heap.size W w')
    (R : (Int × Int × Int × Int) × Nat × Int) (hR : runSteps l [.first, .second, .arrow, .result] 0 (0, 0, 0, 0) = some R) (r1 r2 r3 r4 r5 r6 r7 : Int) (hE : endRead l 4 k R = some (r1, r2, r3, r4, r5, r6, r7)) :
    Calls Tryd.prog 10 #[.slice (some ad) l.length c0] w fun e w' => e = .returned (.tuple #[.agg #[.int .i64 r1, .int .i64 r2, .int .i64 r3, .int .i64 r4, .int .i64 r5], .int .i64 r6, .int .i64 r7]) ∧ Below w.heap.size w w' := by
  have HK := Aside0.mk hkind
  have HY := Aside0.mk hof
  have HC := Aside0.mk hcell
  have HR := Aside0.mk hR
  have HE := Aside0.mk hE
  have HKK := Aside0.mk hk
  have HL := Aside0.mk hl
  have HL2 := Aside0.mk hl2
  clear hkind hof hcell hR hE hk hl2
  have p1 : ((l.length : Int) == 0) = false := beq_eq_false_iff_ne.2 (by omega)
  have p2 : (0 : Int) < (l.length : Int) := by omega
  have p3 := eq_true p2
  clear hl
  have hcw : w.cell? ad = some (.string (rdOf ByteArray.empty l 0)) := by
    have := HC.out 0 (by omega) (by omega)
    simpa [Addr.add] using this
  go_enter Tryd.func10, Tryd.ntmps10
  go_wp2_with fail
  refine (HK.out _).mono ?_
  rintro e w2 ⟨rfl, hb2⟩
  have HZ2 := Aside0.mk (blk_below (blk_new w _) hb2)
  have HB2 := Aside0.mk (((Below.refl _ w).alloc (Nat.le_refl _) _).trans (hb2.mono (by simp)))
  clear hb2
  go_wp2_with fail
  refine (HY.out _).mono ?_
  rintro e w3 ⟨rfl, hb3⟩
  have HZ3 := Aside0.mk (blk_below HZ2.out hb3)
  have HB3 := Aside0.mk (HB2.out.trans (hb3.mono HB2.out.size))
  have hBW3 : w.heap.size < w3.heap.size := blk_lt HZ3.out
  clear hb3 hcw
  go_wp2_with fail
  refine then_world (RefMem w w3.heap.size (w3.heap.size + 1) (w3.heap.size + 1 + 1) #[.int .i64 typ, .int .i64 2, .int .i64 ret, .string word] k (0, 0, 0, 0)) (refmem_new w w3 _ k HZ3.out HB3.out hBW3) fun W0 HF => ?_
  have n1 : w.heap.size < w3.heap.size := hBW3
  have HM := Aside0.mk HF
  clear HZ2 HZ3 HB2 HB3 HF hBW3
  obtain ⟨gk, hgk⟩ : ∃ gk, gk = w3.heap.size := ⟨_, rfl⟩
  rw [← hgk] at HM n1 ⊢
  have d1 : w.heap.size ≠ gk := by omega
  have d2 : w.heap.size ≠ gk + 1 := by omega
  have d3 : w.heap.size ≠ gk + 1 + 1 := by omega
  have d4 : gk ≠ gk + 1 := by omega
  have d5 : gk ≠ gk + 1 + 1 := by omega
  have d6 : gk + 1 ≠ gk + 1 + 1 := by omega
  have d1' := Ne.symm d1
  have d2' := Ne.symm d2
  have d3' := Ne.symm d3
  have d4' := Ne.symm d4
  have d5' := Ne.symm d5
  have d6' := Ne.symm d6
  clear hgk
  refine wp_loop_rounds 5 ?_
  rw [rounds_succ]
  by_cases cj0 : 0 + 1 = l.length
  · have hlen : (l.length : Int) = 1 := by omega
    have hR := HR.out
    unfold runSteps at hR
    rw [if_pos cj0] at hR
    have hR := (Option.some.inj hR).symm
    have hE := HE.out
    rw [hR] at hE
    unfold endRead at hE
    rw [if_pos (show (5 : Int) ≠ 0 by decide)] at hE
    simp only [Option.some.injEq, Prod.mk.injEq] at hE
    obtain ⟨rfl, rfl, rfl, rfl, rfl, rfl, rfl⟩ := hE
    clear cj0 p1 p2 p3
    have c0' := (blk_cell HM.out.1 0).trans rfl
    have c1' := (blk_cell HM.out.1 1).trans rfl
    have c2' := (blk_cell HM.out.1 2).trans rfl
    have c3' := (blk_cell HM.out.1 3).trans rfl
    have c4' := (blk_cell HM.out.1 4).trans rfl
    have f0' := blk_frozen HM.out.1 0
    have f1' := blk_frozen HM.out.1 1
    have f2' := blk_frozen HM.out.1 2
    have f3' := blk_frozen HM.out.1 3
    have f4' := blk_frozen HM.out.1 4
    have b0' := (blk_cell HM.out.2.1 1).trans rfl
    have o0' := (blk_cell HM.out.2.2.1 0).trans rfl
    have o1' := (blk_cell HM.out.2.2.1 1).trans rfl
    have o2' := (blk_cell HM.out.2.2.1 2).trans rfl
    have o3' := (blk_cell HM.out.2.2.1 3).trans rfl
    have o4' := (blk_cell HM.out.2.2.1 4).trans rfl
    have of1' := blk_frozen HM.out.2.2.1 1
    have of2' := blk_frozen HM.out.2.2.1 2
    have of3' := blk_frozen HM.out.2.2.1 3
    have of4' := blk_frozen HM.out.2.2.1 4
    have a0' := (blk_cell HM.out.2.2.2.1 0).trans rfl
    have a1' := (blk_cell HM.out.2.2.2.1 1).trans rfl
    have af0' := blk_frozen HM.out.2.2.2.1 0
    have af1' := blk_frozen HM.out.2.2.2.1 1
    have t0' := blk_lt HM.out.1
    have t1' := blk_lt HM.out.2.1
    have t2' := blk_lt HM.out.2.2.1
    have t3' := blk_lt HM.out.2.2.2.1
    go_wp2
    refine bodyPost_ret (results_ctt rfl _ _ w.heap.size 27 (opCells 0 0 0 0 0) (0, 0) _ rfl (set_blk (HM.out).1) Tryd.underlying27 rfl (by kernel_rfl)) rfl ?_
    exact ⟨rfl, same_below (HM.out).2.2.2.2⟩
  have pj0 : (1 : Int) < (l.length : Int) := by have := HL.out; omega
  have HL' := Aside0.mk (show 1 < l.length by omega)
  clear HL
  have HL := HL'
  clear HL'
  have pk0 := eq_true pj0
  have pd0 := decide_eq_true pj0
  have hcw : W0.cell? ⟨ad.block, ad.off + 1, none⟩ = some (.string (rdOf ByteArray.empty l 1)) := by
    have h := HC.out 1 (by omega) (by omega)
    exact (HM.out.2.2.2.2.cell (p := ⟨ad.block, ad.off + 1, none⟩) had).trans (by simpa [Addr.add] using h)
  have hR := HR.out
  unfold runSteps at hR
  rw [if_neg cj0] at hR
  obtain ⟨⟨y0, e0v⟩, hs, hR⟩ := Option.bind_eq_some_iff.1 hR
  have HT := Aside0.mk (show stepF .first (rdOf ByteArray.empty l 1) (0, 0, 0, 0) = some (y0, e0v) from hs)
  have HR' := Aside0.mk hR
  clear hR hs HR cj0
  have c0' := (blk_cell HM.out.1 0).trans rfl
  have c1' := (blk_cell HM.out.1 1).trans rfl
  have c2' := (blk_cell HM.out.1 2).trans rfl
  have c3' := (blk_cell HM.out.1 3).trans rfl
  have c4' := (blk_cell HM.out.1 4).trans rfl
  have f0' := blk_frozen HM.out.1 0
  have f1' := blk_frozen HM.out.1 1
  have f2' := blk_frozen HM.out.1 2
  have f3' := blk_frozen HM.out.1 3
  have f4' := blk_frozen HM.out.1 4
  have b0' := (blk_cell HM.out.2.1 1).trans rfl
  have o0' := (blk_cell HM.out.2.2.1 0).trans rfl
  have o1' := (blk_cell HM.out.2.2.1 1).trans rfl
  have o2' := (blk_cell HM.out.2.2.1 2).trans rfl
  have o3' := (blk_cell HM.out.2.2.1 3).trans rfl
  have o4' := (blk_cell HM.out.2.2.1 4).trans rfl
  have of1' := blk_frozen HM.out.2.2.1 1
  have of2' := blk_frozen HM.out.2.2.1 2
  have of3' := blk_frozen HM.out.2.2.1 3
  have of4' := blk_frozen HM.out.2.2.1 4
  have a0' := (blk_cell HM.out.2.2.2.1 0).trans rfl
  have a1' := (blk_cell HM.out.2.2.2.1 1).trans rfl
  have af0' := blk_frozen HM.out.2.2.2.1 0
  have af1' := blk_frozen HM.out.2.2.2.1 1
  have t0' := blk_lt HM.out.1
  have t1' := blk_lt HM.out.2.1
  have t2' := blk_lt HM.out.2.2.1
  have t3' := blk_lt HM.out.2.2.2.1
  obtain ⟨⟨n0, ev0⟩, hw, hy⟩ := Option.bind_eq_some_iff.1 HT.out
  simp only [Option.some.injEq, Prod.mk.injEq] at hy
  obtain ⟨rfl, rfl⟩ := hy
  have HW := Aside0.mk hw
  clear hw HT
  go_wp2_with fail
  refine (number_at _ _ _ HW.out _).mono ?_
  rintro e V0 ⟨rfl, hb⟩
  clear c0' c1' c2' c3' c4' f0' f1' f2' f3' f4' b0' o0' o1' o2' o3' o4' of1' of2' of3' of4' a0' a1' af0' af1' t0' t1' t2' t3'
  have HM' := Aside0.mk (HM.out.below hb)
  clear hb HM hcw
  have HM := HM'
  clear HM'
  have c0' := (blk_cell HM.out.1 0).trans rfl
  have c1' := (blk_cell HM.out.1 1).trans rfl
  have c2' := (blk_cell HM.out.1 2).trans rfl
  have c3' := (blk_cell HM.out.1 3).trans rfl
  have c4' := (blk_cell HM.out.1 4).trans rfl
  have f0' := blk_frozen HM.out.1 0
  have f1' := blk_frozen HM.out.1 1
  have f2' := blk_frozen HM.out.1 2
  have f3' := blk_frozen HM.out.1 3
  have f4' := blk_frozen HM.out.1 4
  have b0' := (blk_cell HM.out.2.1 1).trans rfl
  have o0' := (blk_cell HM.out.2.2.1 0).trans rfl
  have o1' := (blk_cell HM.out.2.2.1 1).trans rfl
  have o2' := (blk_cell HM.out.2.2.1 2).trans rfl
  have o3' := (blk_cell HM.out.2.2.1 3).trans rfl
  have o4' := (blk_cell HM.out.2.2.1 4).trans rfl
  have of1' := blk_frozen HM.out.2.2.1 1
  have of2' := blk_frozen HM.out.2.2.1 2
  have of3' := blk_frozen HM.out.2.2.1 3
  have of4' := blk_frozen HM.out.2.2.1 4
  have a0' := (blk_cell HM.out.2.2.2.1 0).trans rfl
  have a1' := (blk_cell HM.out.2.2.2.1 1).trans rfl
  have af0' := blk_frozen HM.out.2.2.2.1 0
  have af1' := blk_frozen HM.out.2.2.2.1 1
  have t0' := blk_lt HM.out.1
  have t1' := blk_lt HM.out.2.1
  have t2' := blk_lt HM.out.2.2.1
  have t3' := blk_lt HM.out.2.2.2.1
  by_cases ce : ev0 = 0
  rotate_left 1
  · have e5 : ev0 = 5 := by rcases whole_e HW.out with h | h <;> omega
    subst e5
    clear HW ce
    have hR := HR'.out
    rw [if_neg (show ¬ (5 : Int) = 0 by decide)] at hR
    have hR := (Option.some.inj hR).symm
    have hE := HE.out
    rw [hR] at hE
    unfold endRead at hE
    rw [if_pos (show (5 : Int) ≠ 0 by decide)] at hE
    simp only [Option.some.injEq, Prod.mk.injEq] at hE
    obtain ⟨rfl, rfl, rfl, rfl, rfl, rfl, rfl⟩ := hE
    go_wp2
    refine bodyPost_ret (results_ctt rfl _ _ w.heap.size 27 (opCells 0 0 0 0 0) (0, 0) _ rfl (set_blk (HM.out.arg0 (by omega) (by omega) (by omega) n0).1) Tryd.underlying27 rfl (by kernel_rfl)) rfl ?_
    exact ⟨rfl, same_below (HM.out.arg0 (by omega) (by omega) (by omega) n0).2.2.2.2⟩
  subst ce
  have hR := HR'.out
  rw [if_pos rfl] at hR
  have HR := Aside0.mk (show runSteps l [.second, .arrow, .result] 1 (n0, 0, 0, 0) = some R from hR)
  clear HR' hR
  go_wp2_with fail
  refine then_world (RefMem w gk (gk + 1) (gk + 1 + 1) #[.int .i64 typ, .int .i64 2, .int .i64 ret, .string word] k (n0, 0, 0, 0)) (HM.out.arg0 (by omega) (by omega) (by omega) n0) fun W1 HF => ?_
  clear c0' c1' c2' c3' c4' f0' f1' f2' f3' f4' b0' o0' o1' o2' o3' o4' of1' of2' of3' of4' a0' a1' af0' af1' t0' t1' t2' t3'
  have HM' := Aside0.mk HF
  clear HF HM pj0 pk0 pd0
  have HM := HM'
  clear HM'
  rw [rounds_succ]
  by_cases cj1 : 1 + 1 = l.length
  · have hlen : (l.length : Int) = 2 := by omega
    have hR := HR.out
    unfold runSteps at hR
    rw [if_pos cj1] at hR
    have hR := (Option.some.inj hR).symm
    have hE := HE.out
    rw [hR] at hE
    unfold endRead at hE
    rw [if_pos (show (5 : Int) ≠ 0 by decide)] at hE
    simp only [Option.some.injEq, Prod.mk.injEq] at hE
    obtain ⟨rfl, rfl, rfl, rfl, rfl, rfl, rfl⟩ := hE
    clear cj1 p1 p2 p3
    have c0' := (blk_cell HM.out.1 0).trans rfl
    have c1' := (blk_cell HM.out.1 1).trans rfl
    have c2' := (blk_cell HM.out.1 2).trans rfl
    have c3' := (blk_cell HM.out.1 3).trans rfl
    have c4' := (blk_cell HM.out.1 4).trans rfl
    have f0' := blk_frozen HM.out.1 0
    have f1' := blk_frozen HM.out.1 1
    have f2' := blk_frozen HM.out.1 2
    have f3' := blk_frozen HM.out.1 3
    have f4' := blk_frozen HM.out.1 4
    have b0' := (blk_cell HM.out.2.1 1).trans rfl
    have o0' := (blk_cell HM.out.2.2.1 0).trans rfl
    have o1' := (blk_cell HM.out.2.2.1 1).trans rfl
    have o2' := (blk_cell HM.out.2.2.1 2).trans rfl
    have o3' := (blk_cell HM.out.2.2.1 3).trans rfl
    have o4' := (blk_cell HM.out.2.2.1 4).trans rfl
    have of1' := blk_frozen HM.out.2.2.1 1
    have of2' := blk_frozen HM.out.2.2.1 2
    have of3' := blk_frozen HM.out.2.2.1 3
    have of4' := blk_frozen HM.out.2.2.1 4
    have a0' := (blk_cell HM.out.2.2.2.1 0).trans rfl
    have a1' := (blk_cell HM.out.2.2.2.1 1).trans rfl
    have af0' := blk_frozen HM.out.2.2.2.1 0
    have af1' := blk_frozen HM.out.2.2.2.1 1
    have t0' := blk_lt HM.out.1
    have t1' := blk_lt HM.out.2.1
    have t2' := blk_lt HM.out.2.2.1
    have t3' := blk_lt HM.out.2.2.2.1
    go_wp2
    refine bodyPost_ret (results_ctt rfl _ _ w.heap.size 27 (opCells 0 0 0 0 0) (0, 0) _ rfl (set_blk (HM.out).1) Tryd.underlying27 rfl (by kernel_rfl)) rfl ?_
    exact ⟨rfl, same_below (HM.out).2.2.2.2⟩
  have pj1 : (2 : Int) < (l.length : Int) := by have := HL.out; omega
  have HL' := Aside0.mk (show 2 < l.length by omega)
  clear HL
  have HL := HL'
  clear HL'
  have pk1 := eq_true pj1
  have pd1 := decide_eq_true pj1
  have hcw : W1.cell? ⟨ad.block, ad.off + 2, none⟩ = some (.string (rdOf ByteArray.empty l 2)) := by
    have h := HC.out 2 (by omega) (by omega)
    exact (HM.out.2.2.2.2.cell (p := ⟨ad.block, ad.off + 2, none⟩) had).trans (by simpa [Addr.add] using h)
  have hR := HR.out
  unfold runSteps at hR
  rw [if_neg cj1] at hR
  obtain ⟨⟨y1, e1v⟩, hs, hR⟩ := Option.bind_eq_some_iff.1 hR
  have HT := Aside0.mk (show stepF .second (rdOf ByteArray.empty l 2) (n0, 0, 0, 0) = some (y1, e1v) from hs)
  have HR' := Aside0.mk hR
  clear hR hs HR cj1
  have c0' := (blk_cell HM.out.1 0).trans rfl
  have c1' := (blk_cell HM.out.1 1).trans rfl
  have c2' := (blk_cell HM.out.1 2).trans rfl
  have c3' := (blk_cell HM.out.1 3).trans rfl
  have c4' := (blk_cell HM.out.1 4).trans rfl
  have f0' := blk_frozen HM.out.1 0
  have f1' := blk_frozen HM.out.1 1
  have f2' := blk_frozen HM.out.1 2
  have f3' := blk_frozen HM.out.1 3
  have f4' := blk_frozen HM.out.1 4
  have b0' := (blk_cell HM.out.2.1 1).trans rfl
  have o0' := (blk_cell HM.out.2.2.1 0).trans rfl
  have o1' := (blk_cell HM.out.2.2.1 1).trans rfl
  have o2' := (blk_cell HM.out.2.2.1 2).trans rfl
  have o3' := (blk_cell HM.out.2.2.1 3).trans rfl
  have o4' := (blk_cell HM.out.2.2.1 4).trans rfl
  have of1' := blk_frozen HM.out.2.2.1 1
  have of2' := blk_frozen HM.out.2.2.1 2
  have of3' := blk_frozen HM.out.2.2.1 3
  have of4' := blk_frozen HM.out.2.2.1 4
  have a0' := (blk_cell HM.out.2.2.2.1 0).trans rfl
  have a1' := (blk_cell HM.out.2.2.2.1 1).trans rfl
  have af0' := blk_frozen HM.out.2.2.2.1 0
  have af1' := blk_frozen HM.out.2.2.2.1 1
  have t0' := blk_lt HM.out.1
  have t1' := blk_lt HM.out.2.1
  have t2' := blk_lt HM.out.2.2.1
  have t3' := blk_lt HM.out.2.2.2.1
  obtain ⟨⟨n1, ev1⟩, hw, hy⟩ := Option.bind_eq_some_iff.1 HT.out
  simp only [Option.some.injEq, Prod.mk.injEq] at hy
  obtain ⟨rfl, rfl⟩ := hy
  have HW := Aside0.mk hw
  clear hw HT
  go_wp2_with fail
  refine (number_at _ _ _ HW.out _).mono ?_
  rintro e V1 ⟨rfl, hb⟩
  clear c0' c1' c2' c3' c4' f0' f1' f2' f3' f4' b0' o0' o1' o2' o3' o4' of1' of2' of3' of4' a0' a1' af0' af1' t0' t1' t2' t3'
  have HM' := Aside0.mk (HM.out.below hb)
  clear hb HM hcw
  have HM := HM'
  clear HM'
  have c0' := (blk_cell HM.out.1 0).trans rfl
  have c1' := (blk_cell HM.out.1 1).trans rfl
  have c2' := (blk_cell HM.out.1 2).trans rfl
  have c3' := (blk_cell HM.out.1 3).trans rfl
  have c4' := (blk_cell HM.out.1 4).trans rfl
  have f0' := blk_frozen HM.out.1 0
  have f1' := blk_frozen HM.out.1 1
  have f2' := blk_frozen HM.out.1 2
  have f3' := blk_frozen HM.out.1 3
  have f4' := blk_frozen HM.out.1 4
  have b0' := (blk_cell HM.out.2.1 1).trans rfl
  have o0' := (blk_cell HM.out.2.2.1 0).trans rfl
  have o1' := (blk_cell HM.out.2.2.1 1).trans rfl
  have o2' := (blk_cell HM.out.2.2.1 2).trans rfl
  have o3' := (blk_cell HM.out.2.2.1 3).trans rfl
  have o4' := (blk_cell HM.out.2.2.1 4).trans rfl
  have of1' := blk_frozen HM.out.2.2.1 1
  have of2' := blk_frozen HM.out.2.2.1 2
  have of3' := blk_frozen HM.out.2.2.1 3
  have of4' := blk_frozen HM.out.2.2.1 4
  have a0' := (blk_cell HM.out.2.2.2.1 0).trans rfl
  have a1' := (blk_cell HM.out.2.2.2.1 1).trans rfl
  have af0' := blk_frozen HM.out.2.2.2.1 0
  have af1' := blk_frozen HM.out.2.2.2.1 1
  have t0' := blk_lt HM.out.1
  have t1' := blk_lt HM.out.2.1
  have t2' := blk_lt HM.out.2.2.1
  have t3' := blk_lt HM.out.2.2.2.1
  by_cases ce : ev1 = 0
  rotate_left 1
  · have e5 : ev1 = 5 := by rcases whole_e HW.out with h | h <;> omega
    subst e5
    clear HW ce
    have hR := HR'.out
    rw [if_neg (show ¬ (5 : Int) = 0 by decide)] at hR
    have hR := (Option.some.inj hR).symm
    have hE := HE.out
    rw [hR] at hE
    unfold endRead at hE
    rw [if_pos (show (5 : Int) ≠ 0 by decide)] at hE
    simp only [Option.some.injEq, Prod.mk.injEq] at hE
    obtain ⟨rfl, rfl, rfl, rfl, rfl, rfl, rfl⟩ := hE
    go_wp2
    refine bodyPost_ret (results_ctt rfl _ _ w.heap.size 27 (opCells 0 0 0 0 0) (0, 0) _ rfl (set_blk (HM.out.arg1 (by omega) (by omega) (by omega) n1).1) Tryd.underlying27 rfl (by kernel_rfl)) rfl ?_
    exact ⟨rfl, same_below (HM.out.arg1 (by omega) (by omega) (by omega) n1).2.2.2.2⟩
  subst ce
  have hR := HR'.out
  rw [if_pos rfl] at hR
  have HR := Aside0.mk (show runSteps l [.arrow, .result] 2 (n0, n1, 0, 0) = some R from hR)
  clear HR' hR
  go_wp2_with fail
  refine then_world (RefMem w gk (gk + 1) (gk + 1 + 1) #[.int .i64 typ, .int .i64 2, .int .i64 ret, .string word] k (n0, n1, 0, 0)) (HM.out.arg1 (by omega) (by omega) (by omega) n1) fun W2 HF => ?_
  clear c0' c1' c2' c3' c4' f0' f1' f2' f3' f4' b0' o0' o1' o2' o3' o4' of1' of2' of3' of4' a0' a1' af0' af1' t0' t1' t2' t3'
  have HM' := Aside0.mk HF
  clear HF HM pj1 pk1 pd1
  have HM := HM'
  clear HM'
  rw [rounds_succ]
  by_cases cj2 : 2 + 1 = l.length
  · have hlen : (l.length : Int) = 3 := by omega
    have hR := HR.out
    unfold runSteps at hR
    rw [if_pos cj2] at hR
    have hR := (Option.some.inj hR).symm
    have hE := HE.out
    rw [hR] at hE
    unfold endRead at hE
    rw [if_pos (show (5 : Int) ≠ 0 by decide)] at hE
    simp only [Option.some.injEq, Prod.mk.injEq] at hE
    obtain ⟨rfl, rfl, rfl, rfl, rfl, rfl, rfl⟩ := hE
    clear cj2 p1 p2 p3
    have c0' := (blk_cell HM.out.1 0).trans rfl
    have c1' := (blk_cell HM.out.1 1).trans rfl
    have c2' := (blk_cell HM.out.1 2).trans rfl
    have c3' := (blk_cell HM.out.1 3).trans rfl
    have c4' := (blk_cell HM.out.1 4).trans rfl
    have f0' := blk_frozen HM.out.1 0
    have f1' := blk_frozen HM.out.1 1
    have f2' := blk_frozen HM.out.1 2
    have f3' := blk_frozen HM.out.1 3
    have f4' := blk_frozen HM.out.1 4
    have b0' := (blk_cell HM.out.2.1 1).trans rfl
    have o0' := (blk_cell HM.out.2.2.1 0).trans rfl
    have o1' := (blk_cell HM.out.2.2.1 1).trans rfl
    have o2' := (blk_cell HM.out.2.2.1 2).trans rfl
    have o3' := (blk_cell HM.out.2.2.1 3).trans rfl
    have o4' := (blk_cell HM.out.2.2.1 4).trans rfl
    have of1' := blk_frozen HM.out.2.2.1 1
    have of2' := blk_frozen HM.out.2.2.1 2
    have of3' := blk_frozen HM.out.2.2.1 3
    have of4' := blk_frozen HM.out.2.2.1 4
    have a0' := (blk_cell HM.out.2.2.2.1 0).trans rfl
    have a1' := (blk_cell HM.out.2.2.2.1 1).trans rfl
    have af0' := blk_frozen HM.out.2.2.2.1 0
    have af1' := blk_frozen HM.out.2.2.2.1 1
    have t0' := blk_lt HM.out.1
    have t1' := blk_lt HM.out.2.1
    have t2' := blk_lt HM.out.2.2.1
    have t3' := blk_lt HM.out.2.2.2.1
    go_wp2
    refine bodyPost_ret (results_ctt rfl _ _ w.heap.size 27 (opCells 0 0 0 0 0) (0, 0) _ rfl (set_blk (HM.out).1) Tryd.underlying27 rfl (by kernel_rfl)) rfl ?_
    exact ⟨rfl, same_below (HM.out).2.2.2.2⟩
  have pj2 : (3 : Int) < (l.length : Int) := by have := HL.out; omega
  have HL' := Aside0.mk (show 3 < l.length by omega)
  clear HL
  have HL := HL'
  clear HL'
  have pk2 := eq_true pj2
  have pd2 := decide_eq_true pj2
  have hcw : W2.cell? ⟨ad.block, ad.off + 3, none⟩ = some (.string (rdOf ByteArray.empty l 3)) := by
    have h := HC.out 3 (by omega) (by omega)
    exact (HM.out.2.2.2.2.cell (p := ⟨ad.block, ad.off + 3, none⟩) had).trans (by simpa [Addr.add] using h)
  have hR := HR.out
  unfold runSteps at hR
  rw [if_neg cj2] at hR
  obtain ⟨⟨y2, e2v⟩, hs, hR⟩ := Option.bind_eq_some_iff.1 hR
  have HT := Aside0.mk (show stepF .arrow (rdOf ByteArray.empty l 3) (n0, n1, 0, 0) = some (y2, e2v) from hs)
  have HR' := Aside0.mk hR
  clear hR hs HR cj2
  have c0' := (blk_cell HM.out.1 0).trans rfl
  have c1' := (blk_cell HM.out.1 1).trans rfl
  have c2' := (blk_cell HM.out.1 2).trans rfl
  have c3' := (blk_cell HM.out.1 3).trans rfl
  have c4' := (blk_cell HM.out.1 4).trans rfl
  have f0' := blk_frozen HM.out.1 0
  have f1' := blk_frozen HM.out.1 1
  have f2' := blk_frozen HM.out.1 2
  have f3' := blk_frozen HM.out.1 3
  have f4' := blk_frozen HM.out.1 4
  have b0' := (blk_cell HM.out.2.1 1).trans rfl
  have o0' := (blk_cell HM.out.2.2.1 0).trans rfl
  have o1' := (blk_cell HM.out.2.2.1 1).trans rfl
  have o2' := (blk_cell HM.out.2.2.1 2).trans rfl
  have o3' := (blk_cell HM.out.2.2.1 3).trans rfl
  have o4' := (blk_cell HM.out.2.2.1 4).trans rfl
  have of1' := blk_frozen HM.out.2.2.1 1
  have of2' := blk_frozen HM.out.2.2.1 2
  have of3' := blk_frozen HM.out.2.2.1 3
  have of4' := blk_frozen HM.out.2.2.1 4
  have a0' := (blk_cell HM.out.2.2.2.1 0).trans rfl
  have a1' := (blk_cell HM.out.2.2.2.1 1).trans rfl
  have af0' := blk_frozen HM.out.2.2.2.1 0
  have af1' := blk_frozen HM.out.2.2.2.1 1
  have t0' := blk_lt HM.out.1
  have t1' := blk_lt HM.out.2.1
  have t2' := blk_lt HM.out.2.2.1
  have t3' := blk_lt HM.out.2.2.2.1
  have ht := HT.out
  unfold stepF at ht
  simp only [Option.some.injEq, Prod.mk.injEq] at ht
  obtain ⟨hy, he⟩ := ht
  subst hy
  by_cases ca : (rdOf ByteArray.empty l 3).toList = [45, 62]
  rotate_left 1
  · rw [if_neg ca] at he
    subst he
    have cb := beq_eq_false_iff_ne.2 ca
    have hR := HR'.out
    rw [if_neg (show ¬ (5 : Int) = 0 by decide)] at hR
    have hR := (Option.some.inj hR).symm
    have hE := HE.out
    rw [hR] at hE
    unfold endRead at hE
    rw [if_pos (show (5 : Int) ≠ 0 by decide)] at hE
    simp only [Option.some.injEq, Prod.mk.injEq] at hE
    obtain ⟨rfl, rfl, rfl, rfl, rfl, rfl, rfl⟩ := hE
    clear HT ca
    go_wp2
    refine bodyPost_ret (results_ctt rfl _ _ w.heap.size 27 (opCells 0 0 0 0 0) (0, 0) _ rfl (set_blk (HM.out).1) Tryd.underlying27 rfl (by kernel_rfl)) rfl ?_
    exact ⟨rfl, same_below (HM.out).2.2.2.2⟩
  rw [if_pos ca] at he
  subst he
  have cb := beq_iff_eq.2 ca
  clear HT ca
  have hR := HR'.out
  rw [if_pos rfl] at hR
  have HR := Aside0.mk (show runSteps l [.result] 3 (n0, n1, 0, 0) = some R from hR)
  clear HR' hR
  go_wp2_with fail
  clear c0' c1' c2' c3' c4' f0' f1' f2' f3' f4' b0' o0' o1' o2' o3' o4' of1' of2' of3' of4' a0' a1' af0' af1' t0' t1' t2' t3'
  clear pj2 pk2 pd2 hcw cb
  rw [rounds_succ]
  by_cases cj3 : 3 + 1 = l.length
  · have hlen : (l.length : Int) = 4 := by omega
    have hR := HR.out
    unfold runSteps at hR
    rw [if_pos cj3] at hR
    have hR := (Option.some.inj hR).symm
    have hE := HE.out
    rw [hR] at hE
    unfold endRead at hE
    rw [if_pos (show (5 : Int) ≠ 0 by decide)] at hE
    simp only [Option.some.injEq, Prod.mk.injEq] at hE
    obtain ⟨rfl, rfl, rfl, rfl, rfl, rfl, rfl⟩ := hE
    clear cj3 p1 p2 p3
    have c0' := (blk_cell HM.out.1 0).trans rfl
    have c1' := (blk_cell HM.out.1 1).trans rfl
    have c2' := (blk_cell HM.out.1 2).trans rfl
    have c3' := (blk_cell HM.out.1 3).trans rfl
    have c4' := (blk_cell HM.out.1 4).trans rfl
    have f0' := blk_frozen HM.out.1 0
    have f1' := blk_frozen HM.out.1 1
    have f2' := blk_frozen HM.out.1 2
    have f3' := blk_frozen HM.out.1 3
    have f4' := blk_frozen HM.out.1 4
    have b0' := (blk_cell HM.out.2.1 1).trans rfl
    have o0' := (blk_cell HM.out.2.2.1 0).trans rfl
    have o1' := (blk_cell HM.out.2.2.1 1).trans rfl
    have o2' := (blk_cell HM.out.2.2.1 2).trans rfl
    have o3' := (blk_cell HM.out.2.2.1 3).trans rfl
    have o4' := (blk_cell HM.out.2.2.1 4).trans rfl
    have of1' := blk_frozen HM.out.2.2.1 1
    have of2' := blk_frozen HM.out.2.2.1 2
    have of3' := blk_frozen HM.out.2.2.1 3
    have of4' := blk_frozen HM.out.2.2.1 4
    have a0' := (blk_cell HM.out.2.2.2.1 0).trans rfl
    have a1' := (blk_cell HM.out.2.2.2.1 1).trans rfl
    have af0' := blk_frozen HM.out.2.2.2.1 0
    have af1' := blk_frozen HM.out.2.2.2.1 1
    have t0' := blk_lt HM.out.1
    have t1' := blk_lt HM.out.2.1
    have t2' := blk_lt HM.out.2.2.1
    have t3' := blk_lt HM.out.2.2.2.1
    go_wp2
    refine bodyPost_ret (results_ctt rfl _ _ w.heap.size 27 (opCells 0 0 0 0 0) (0, 0) _ rfl (set_blk (HM.out).1) Tryd.underlying27 rfl (by kernel_rfl)) rfl ?_
    exact ⟨rfl, same_below (HM.out).2.2.2.2⟩
  have pj3 : (4 : Int) < (l.length : Int) := by have := HL.out; omega
  have HL' := Aside0.mk (show 4 < l.length by omega)
  clear HL
  have HL := HL'
  clear HL'
  have pk3 := eq_true pj3
  have pd3 := decide_eq_true pj3
  have hcw : W2.cell? ⟨ad.block, ad.off + 4, none⟩ = some (.string (rdOf ByteArray.empty l 4)) := by
    have h := HC.out 4 (by omega) (by omega)
    exact (HM.out.2.2.2.2.cell (p := ⟨ad.block, ad.off + 4, none⟩) had).trans (by simpa [Addr.add] using h)
  have hR := HR.out
  unfold runSteps at hR
  rw [if_neg cj3] at hR
  obtain ⟨⟨y3, e3v⟩, hs, hR⟩ := Option.bind_eq_some_iff.1 hR
  have HT := Aside0.mk (show stepF .result (rdOf ByteArray.empty l 4) (n0, n1, 0, 0) = some (y3, e3v) from hs)
  have HR' := Aside0.mk hR
  clear hR hs HR cj3
  have c0' := (blk_cell HM.out.1 0).trans rfl
  have c1' := (blk_cell HM.out.1 1).trans rfl
  have c2' := (blk_cell HM.out.1 2).trans rfl
  have c3' := (blk_cell HM.out.1 3).trans rfl
  have c4' := (blk_cell HM.out.1 4).trans rfl
  have f0' := blk_frozen HM.out.1 0
  have f1' := blk_frozen HM.out.1 1
  have f2' := blk_frozen HM.out.1 2
  have f3' := blk_frozen HM.out.1 3
  have f4' := blk_frozen HM.out.1 4
  have b0' := (blk_cell HM.out.2.1 1).trans rfl
  have o0' := (blk_cell HM.out.2.2.1 0).trans rfl
  have o1' := (blk_cell HM.out.2.2.1 1).trans rfl
  have o2' := (blk_cell HM.out.2.2.1 2).trans rfl
  have o3' := (blk_cell HM.out.2.2.1 3).trans rfl
  have o4' := (blk_cell HM.out.2.2.1 4).trans rfl
  have of1' := blk_frozen HM.out.2.2.1 1
  have of2' := blk_frozen HM.out.2.2.1 2
  have of3' := blk_frozen HM.out.2.2.1 3
  have of4' := blk_frozen HM.out.2.2.1 4
  have a0' := (blk_cell HM.out.2.2.2.1 0).trans rfl
  have a1' := (blk_cell HM.out.2.2.2.1 1).trans rfl
  have af0' := blk_frozen HM.out.2.2.2.1 0
  have af1' := blk_frozen HM.out.2.2.2.1 1
  have t0' := blk_lt HM.out.1
  have t1' := blk_lt HM.out.2.1
  have t2' := blk_lt HM.out.2.2.1
  have t3' := blk_lt HM.out.2.2.2.1
  go_wp2_with fail
  refine (returns_at _ (n0, n1, 0, 0) y3 e3v HT.out _).mono ?_
  rintro e V3 ⟨rfl, hb⟩
  clear c0' c1' c2' c3' c4' f0' f1' f2' f3' f4' b0' o0' o1' o2' o3' o4' of1' of2' of3' of4' a0' a1' af0' af1' t0' t1' t2' t3'
  have HM' := Aside0.mk (HM.out.below hb)
  clear hb HM hcw
  have HM := HM'
  clear HM'
  have c0' := (blk_cell HM.out.1 0).trans rfl
  have c1' := (blk_cell HM.out.1 1).trans rfl
  have c2' := (blk_cell HM.out.1 2).trans rfl
  have c3' := (blk_cell HM.out.1 3).trans rfl
  have c4' := (blk_cell HM.out.1 4).trans rfl
  have f0' := blk_frozen HM.out.1 0
  have f1' := blk_frozen HM.out.1 1
  have f2' := blk_frozen HM.out.1 2
  have f3' := blk_frozen HM.out.1 3
  have f4' := blk_frozen HM.out.1 4
  have b0' := (blk_cell HM.out.2.1 1).trans rfl
  have o0' := (blk_cell HM.out.2.2.1 0).trans rfl
  have o1' := (blk_cell HM.out.2.2.1 1).trans rfl
  have o2' := (blk_cell HM.out.2.2.1 2).trans rfl
  have o3' := (blk_cell HM.out.2.2.1 3).trans rfl
  have o4' := (blk_cell HM.out.2.2.1 4).trans rfl
  have of1' := blk_frozen HM.out.2.2.1 1
  have of2' := blk_frozen HM.out.2.2.1 2
  have of3' := blk_frozen HM.out.2.2.1 3
  have of4' := blk_frozen HM.out.2.2.1 4
  have a0' := (blk_cell HM.out.2.2.2.1 0).trans rfl
  have a1' := (blk_cell HM.out.2.2.2.1 1).trans rfl
  have af0' := blk_frozen HM.out.2.2.2.1 0
  have af1' := blk_frozen HM.out.2.2.2.1 1
  have t0' := blk_lt HM.out.1
  have t1' := blk_lt HM.out.2.1
  have t2' := blk_lt HM.out.2.2.1
  have t3' := blk_lt HM.out.2.2.2.1
  by_cases ce : e3v = 0
  rotate_left 1
  · have e9 : e3v = 9 := by rcases step_e HT.out with h | h; exact absurd h ce; exact h
    subst e9
    clear HT ce
    have hR := HR'.out
    rw [if_neg (show ¬ (9 : Int) = 0 by decide)] at hR
    have hR := (Option.some.inj hR).symm
    have hE := HE.out
    rw [hR] at hE
    unfold endRead at hE
    rw [if_pos (show (9 : Int) ≠ 0 by decide)] at hE
    simp only [Option.some.injEq, Prod.mk.injEq] at hE
    obtain ⟨rfl, rfl, rfl, rfl, rfl, rfl, rfl⟩ := hE
    go_wp2
    refine bodyPost_ret (results_ctt rfl _ _ w.heap.size 27 (opCells 0 0 0 0 0) (0, 0) _ rfl (set_blk (HM.out.ret (by omega) (by omega) (by omega) y3.2.2.1 y3.2.2.2).1) Tryd.underlying27 rfl (by kernel_rfl)) rfl ?_
    exact ⟨rfl, same_below (HM.out.ret (by omega) (by omega) (by omega) y3.2.2.1 y3.2.2.2).2.2.2.2⟩
  subst ce
  have hkeep := step_keep HT.out
  have hR := HR'.out
  rw [if_pos rfl] at hR
  have HR := Aside0.mk (show runSteps l [] 4 y3 = some R from hR)
  clear HR' hR
  go_wp2_with fail
  refine then_world (RefMem w gk (gk + 1) (gk + 1 + 1) #[.int .i64 typ, .int .i64 2, .int .i64 ret, .string word] k y3) (step_mem (HM.out.ret (by omega) (by omega) (by omega) y3.2.2.1 y3.2.2.2) hkeep) fun W4 HF => ?_
  clear c0' c1' c2' c3' c4' f0' f1' f2' f3' f4' b0' o0' o1' o2' o3' o4' of1' of2' of3' of4' a0' a1' af0' af1' t0' t1' t2' t3'
  have HM' := Aside0.mk HF
  clear HF HM pj3 pk3 pd3 HT hkeep
  have HM := HM'
  clear HM'
  rw [rounds_succ]
  have hR := (Option.some.inj HR.out).symm
  have hE := HE.out
  rw [hR] at hE
  unfold endRead at hE
  rw [if_neg (show ¬ (0 : Int) ≠ 0 by decide)] at hE
  clear hR HR HE
  have c0' := (blk_cell HM.out.1 0).trans rfl
  have c1' := (blk_cell HM.out.1 1).trans rfl
  have c2' := (blk_cell HM.out.1 2).trans rfl
  have c3' := (blk_cell HM.out.1 3).trans rfl
  have c4' := (blk_cell HM.out.1 4).trans rfl
  have f0' := blk_frozen HM.out.1 0
  have f1' := blk_frozen HM.out.1 1
  have f2' := blk_frozen HM.out.1 2
  have f3' := blk_frozen HM.out.1 3
  have f4' := blk_frozen HM.out.1 4
  have b0' := (blk_cell HM.out.2.1 1).trans rfl
  have o0' := (blk_cell HM.out.2.2.1 0).trans rfl
  have o1' := (blk_cell HM.out.2.2.1 1).trans rfl
  have o2' := (blk_cell HM.out.2.2.1 2).trans rfl
  have o3' := (blk_cell HM.out.2.2.1 3).trans rfl
  have o4' := (blk_cell HM.out.2.2.1 4).trans rfl
  have of1' := blk_frozen HM.out.2.2.1 1
  have of2' := blk_frozen HM.out.2.2.1 2
  have of3' := blk_frozen HM.out.2.2.1 3
  have of4' := blk_frozen HM.out.2.2.1 4
  have a0' := (blk_cell HM.out.2.2.2.1 0).trans rfl
  have a1' := (blk_cell HM.out.2.2.2.1 1).trans rfl
  have af0' := blk_frozen HM.out.2.2.2.1 0
  have af1' := blk_frozen HM.out.2.2.2.1 1
  have t0' := blk_lt HM.out.1
  have t1' := blk_lt HM.out.2.1
  have t2' := blk_lt HM.out.2.2.1
  have t3' := blk_lt HM.out.2.2.2.1
  by_cases cl : 4 + 1 < l.length
  · have g1 : decide ((5 : Int) < (l.length : Int)) = true := decide_eq_true (by omega)
    have g2 : ((l.length : Int) != 5) = true := bne_iff_ne.2 (by omega)
    have g3 : min (l.length : Int) 5 = 5 := by omega
    have g4 : (5 : Int) < (l.length : Int) := by omega
    rw [if_pos cl] at hE
    simp only [Option.some.injEq, Prod.mk.injEq] at hE
    obtain ⟨rfl, rfl, rfl, rfl, rfl, rfl, rfl⟩ := hE
    clear cl p1 p2 p3
    go_wp2
    refine bodyPost_ret (results_ctt rfl _ _ w.heap.size 27 (opCells 0 0 0 0 0) (0, 0) _ rfl (set_blk (HM.out).1) Tryd.underlying27 rfl (by kernel_rfl)) rfl ?_
    exact ⟨rfl, same_below (HM.out).2.2.2.2⟩
  have hlen : (l.length : Int) = 5 := by have := HL.out; omega
  rw [if_neg cl] at hE
  clear cl p1 p2 p3
  obtain ⟨c, hck, hE⟩ := Option.bind_eq_some_iff.1 hE
  have HE := Aside0.mk hE
  have HCK := Aside0.mk hck
  clear hE hck
  go_wp2_with fail
  refine (armisticeref04_Check.calls 30 k y3.1 y3.2.1 y3.2.2.1 y3.2.2.2 c _ ((check_eq _ _ _ _ _ 28).trans HCK.out)).mono ?_
  rintro e W9 ⟨rfl, hb⟩
  clear c0' c1' c2' c3' c4' f0' f1' f2' f3' f4' b0' o0' o1' o2' o3' o4' of1' of2' of3' of4' a0' a1' af0' af1' t0' t1' t2' t3'
  have HF := HM.out.full (by omega) (by omega) (by omega)
  have HZ := Aside0.mk (blk_below HF.1 hb)
  have HO := Aside0.mk (blk_below HF.2.1 hb)
  have HB := Aside0.mk (HF.2.2.trans (hb.mono HF.2.2.size))
  clear HF hb HM
  have c0' := (blk_cell HZ.out 0).trans rfl
  have c1' := (blk_cell HZ.out 1).trans rfl
  have c2' := (blk_cell HZ.out 2).trans rfl
  have c3' := (blk_cell HZ.out 3).trans rfl
  have c4' := (blk_cell HZ.out 4).trans rfl
  have f0' := blk_frozen HZ.out 0
  have f1' := blk_frozen HZ.out 1
  have f2' := blk_frozen HZ.out 2
  have f3' := blk_frozen HZ.out 3
  have f4' := blk_frozen HZ.out 4
  have o0' := (blk_cell HO.out 0).trans rfl
  have o1' := (blk_cell HO.out 1).trans rfl
  have o2' := (blk_cell HO.out 2).trans rfl
  have o3' := (blk_cell HO.out 3).trans rfl
  have o4' := (blk_cell HO.out 4).trans rfl
  have t0' := blk_lt HZ.out
  have t2' := blk_lt HO.out
  have hE := HE.out
  rcases check_vals HKK.out HCK.out with rfl | rfl | rfl
  · rw [if_pos rfl] at hE
    simp only [Option.some.injEq, Prod.mk.injEq] at hE
    obtain ⟨rfl, rfl, rfl, rfl, rfl, rfl, rfl⟩ := hE
    go_wp2
    refine bodyPost_ret (results_ctt rfl _ _ w.heap.size 27 (opCells k y3.1 y3.2.1 y3.2.2.1 y3.2.2.2) (0, 0) _ rfl (set_blk HZ.out) Tryd.underlying27 rfl (by kernel_rfl)) rfl ?_
    exact ⟨rfl, same_below HB.out⟩
  · rw [if_neg (by decide), if_pos rfl] at hE
    simp only [Option.some.injEq, Prod.mk.injEq] at hE
    obtain ⟨rfl, rfl, rfl, rfl, rfl, rfl, rfl⟩ := hE
    go_wp2
    refine bodyPost_ret (results_ctt rfl _ _ w.heap.size 27 (opCells 0 0 0 0 0) (0, 0) _ rfl (set_blk HZ.out) Tryd.underlying27 rfl (by kernel_rfl)) rfl ?_
    exact ⟨rfl, same_below HB.out⟩
  · rw [if_neg (by decide), if_neg (by decide), if_pos rfl] at hE
    simp only [Option.some.injEq, Prod.mk.injEq] at hE
    obtain ⟨rfl, rfl, rfl, rfl, rfl, rfl, rfl⟩ := hE
    go_wp2
    refine bodyPost_ret (results_ctt rfl _ _ w.heap.size 27 (opCells 0 0 0 0 0) (0, 0) _ rfl (set_blk HZ.out) Tryd.underlying27 rfl (by kernel_rfl)) rfl ?_
    exact ⟨rfl, same_below HB.out⟩
set_option maxHeartbeats 2000000 in
set_option maxRecDepth 100000 in
theorem refread_nil (A : Option Addr) (c : Nat) (w : World) :
    Calls Tryd.prog 10 #[.slice A 0 c] w fun e w' => e = .returned (.tuple #[.agg #[.int .i64 0, .int .i64 0, .int .i64 0, .int .i64 0, .int .i64 0], .int .i64 0, .int .i64 5]) ∧ Below w.heap.size w w' := by
  go_enter Tryd.func10, Tryd.ntmps10
  go_wp2
  refine bodyPost_ret (results_ctt rfl _ _ w.heap.size 27 (opCells 0 0 0 0 0) (0, 0) _ rfl (blk_new w _) Tryd.underlying27 rfl (by kernel_rfl)) rfl ?_
  exact ⟨rfl, (Below.refl _ w).alloc (Nat.le_refl _) _⟩
set_option maxHeartbeats 2000000 in
set_option maxRecDepth 100000 in
theorem refread_bad (s : ByteArray) (e0 : Int) (he : e0 ≠ 0) (ad : Addr) (c : Nat) (l : List ByteArray) (hl : 0 < l.length) (w : World) (had : ad.block < w.heap.size) (hcw : w.cell? ad = some (.string s))
    (hkind : ∀ W, Calls Tryd.prog 21 #[.string s] W fun e w' => (∃ k, e = .returned (.tuple #[.int .i64 k, .int .i64 e0])) ∧ Below W.heap.size W w') :
    Calls Tryd.prog 10 #[.slice (some ad) l.length c] w fun e w' => e = .returned (.tuple #[.agg #[.int .i64 0, .int .i64 0, .int .i64 0, .int .i64 0, .int .i64 0], .int .i64 0, .int .i64 e0]) ∧ Below w.heap.size w w' := by
  have HK := Aside0.mk hkind
  clear hkind
  have p1 : ((l.length : Int) == 0) = false := beq_eq_false_iff_ne.2 (by omega)
  have p2 : (0 : Int) < (l.length : Int) := by omega
  have p3 := eq_true p2
  have h1 : (e0 != 0) = true := bne_iff_ne.2 he
  have h2 : (e0 == 0) = false := beq_eq_false_iff_ne.2 he
  clear he
  go_enter Tryd.func10, Tryd.ntmps10
  go_wp2_with fail
  refine (HK.out _).mono ?_
  rintro e w2 ⟨⟨k, rfl⟩, hb2⟩
  have hz : w2.heap[w.heap.size]? = some (.cells (opCells 0 0 0 0 0) 27) := blk_below (blk_new w _) hb2
  have HZ := Aside0.mk hz
  have HB := Aside0.mk (((Below.refl _ w).alloc (Nat.le_refl _) _).trans (hb2.mono (by simp)))
  clear hb2 hz
  have c0' := (blk_cell HZ.out 0).trans rfl
  have c1' := (blk_cell HZ.out 1).trans rfl
  have c2' := (blk_cell HZ.out 2).trans rfl
  have c3' := (blk_cell HZ.out 3).trans rfl
  have c4' := (blk_cell HZ.out 4).trans rfl
  have f0' := blk_frozen HZ.out 0
  have f1' := blk_frozen HZ.out 1
  have f2' := blk_frozen HZ.out 2
  have f3' := blk_frozen HZ.out 3
  have f4' := blk_frozen HZ.out 4
  have s1 := blk_lt HZ.out
  go_wp2
  refine bodyPost_ret (results_ctt rfl _ _ w.heap.size 27 (opCells 0 0 0 0 0) (0, 0) _ rfl (set_blk HZ.out) Tryd.underlying27 rfl (by kernel_rfl)) rfl ?_
  exact ⟨rfl, same_below HB.out⟩
theorem of_kd3 (n : Int) (h : 1 ≤ n ∧ n ≤ 15) : ∃ typ ret, armisticeref04_of.f n = some (typ, (kdOf n).args, ret, (kdOf n).word, true) := by
  rcases cases15 n h with rfl | rfl | rfl | rfl | rfl | rfl | rfl | rfl | rfl | rfl | rfl | rfl | rfl | rfl | rfl
  · exact ⟨_, _, of1⟩
  · exact ⟨_, _, of2⟩
  · exact ⟨_, _, of3⟩
  · exact ⟨_, _, of4⟩
  · exact ⟨_, _, of5⟩
  · exact ⟨_, _, of6⟩
  · exact ⟨_, _, of7⟩
  · exact ⟨_, _, of8⟩
  · exact ⟨_, _, of9⟩
  · exact ⟨_, _, of10⟩
  · exact ⟨_, _, of11⟩
  · exact ⟨_, _, of12⟩
  · exact ⟨_, _, of13⟩
  · exact ⟨_, _, of14⟩
  · exact ⟨_, _, of15⟩
theorem kd_args (n : Int) (h : 1 ≤ n ∧ n ≤ 15) : (kdOf n).args = 0 ∨ (kdOf n).args = 1 ∨ (kdOf n).args = 2 := by
  rcases cases15 n h with rfl | rfl | rfl | rfl | rfl | rfl | rfl | rfl | rfl | rfl | rfl | rfl | rfl | rfl | rfl <;> decide
/-- What the document tells of words is what the program tells. -/
def armisticeref04_Read.f (l : List ByteArray) : Option (Int × Int × Int × Int × Int × Int × Int) := operation_Read.f l
theorem armisticeref04_Read.calls (A0 : Option Addr) (c0 : Nat) (l0 : List ByteArray) (r1 r2 r3 r4 r5 r6 r7 : Int) (w : World) (hr0 : Kd.C Kd.string w A0 l0.length l0) (hc0 : l0.length ≤ c0) (h : armisticeref04_Read.f l0 = some (r1, r2, r3, r4, r5, r6, r7)) :
    Calls Tryd.prog 10 #[.slice A0 l0.length c0] w fun e w' => e = .returned (.tuple #[.agg #[.int .i64 r1, .int .i64 r2, .int .i64 r3, .int .i64 r4, .int .i64 r5], .int .i64 r6, .int .i64 r7]) ∧ Below w.heap.size w w' := by
  unfold armisticeref04_Read.f operation_Read.f at h
  by_cases hl : l0.length = 0
  · rw [if_pos hl] at h
    simp only [Option.some.injEq, Prod.mk.injEq] at h
    obtain ⟨rfl, rfl, rfl, rfl, rfl, rfl, rfl⟩ := h
    rw [hl]
    exact refread_nil A0 c0 w
  · rw [if_neg hl] at h
    obtain ⟨⟨k, e0⟩, hk, h⟩ := Option.bind_eq_some_iff.1 h
    have hp : 0 < l0.length := by omega
    obtain ⟨ad, rfl, h0⟩ := Kd.at_string hr0 0 (by omega) (by omega)
    have had : ad.block < w.heap.size := World.block_lt_of_cell? w (ad.add (0 : Int).toNat) h0
    have hcell : ∀ i : Int, 0 ≤ i → i < l0.length → w.cell? (ad.add i.toNat) = some (.string (rdOf ByteArray.empty l0 i)) := fun i h1 h2 => by
      obtain ⟨ad', e, hc⟩ := Kd.at_string hr0 i h1 h2
      cases e
      exact hc
    have hK := fun W => armisticeref04_Kind.calls 30 _ k e0 W ((kind_eq _).trans hk)
    by_cases he : e0 = 0
    · subst he
      rw [if_neg (show ¬ (0 : Int) ≠ 0 by decide)] at h
      obtain ⟨R, hR, hE⟩ := Option.bind_eq_some_iff.1 h
      have hin : 1 ≤ k ∧ k ≤ 15 := by
        unfold operation_Kind.f at hk
        simp only [Option.some.injEq, Prod.mk.injEq] at hk
        rcases kindIdx_cases (rdOf ByteArray.empty l0 0) with ⟨i, hi, hx⟩ | hx
        · omega
        · rw [if_pos hx] at hk
          omega
      obtain ⟨typ, ret, ho⟩ := of_kd3 k hin
      have HO := fun W => armisticeref04_of.calls k typ _ ret _ true W ho
      have h3 := kd_args k hin
      rcases h3 with h3 | h3 | h3
      all_goals rw [h3] at hR hE HO
      · exact refread_0 typ ret _ ad c0 l0 hp hr0.2.1 hc0 k hin w had hcell hK HO R hR r1 r2 r3 r4 r5 r6 r7 hE
      · exact refread_1 typ ret _ ad c0 l0 hp hr0.2.1 hc0 k hin w had hcell hK HO R hR r1 r2 r3 r4 r5 r6 r7 hE
      · exact refread_2 typ ret _ ad c0 l0 hp hr0.2.1 hc0 k hin w had hcell hK HO R hR r1 r2 r3 r4 r5 r6 r7 hE
    · rw [if_pos he] at h
      simp only [Option.some.injEq, Prod.mk.injEq] at h
      obtain ⟨rfl, rfl, rfl, rfl, rfl, rfl, rfl⟩ := h
      exact refread_bad _ e0 he ad c0 l0 hp w had (by simpa [Addr.add] using h0) (fun W => (hK W).mono fun e w' h => ⟨⟨_, h.1⟩, h.2⟩)
end Go.Proofs.YtoenklncjbcgiaaDoor.P
