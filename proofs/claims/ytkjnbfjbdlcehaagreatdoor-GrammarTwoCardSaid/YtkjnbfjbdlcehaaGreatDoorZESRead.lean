/- state.Read: which state a text is, or why none. -/
import Derived.Test.YtkjnbfjbdlcehaaGreatDoorZESCheck
import Derived.Test.YtkjnbfjbdlcehaaGreatDoorKH
import Derived.Test.YtkjnbfjbdlcehaaGreatDoorEGet
import Derived.Test.YtkjnbfjbdlcehaaGreatDoorShelfP
import Derived.Shelf.SlicesQ.IndexFunc
import Derived.RangeFuncCalls
import Derived.RangeFuncBox
import Derived.Test.YtkjnbfjbdlcehaaGreatDoorPx1
namespace Go.Proofs
def Tryz.laysIdx5_ren : Go.Shelf.Ren := ⟨fun | 6 => 146 | n => n, fun | 22 => 191 | 23 => 97 | 25 => 192 | 3 => 3 | 0 => 0 | 4 => 4 | n => n, fun | n => n⟩
theorem Tryz.laysIdx5 : Go.Proofs.SlLaysH0.n6 Tryz.prog Tryz.laysIdx5_ren := {
  mixed := by kernel_rfl
  f6 := ⟨Tryz.f146.name, by decide, Tryz.func146.trans (congrArg some (by kernel_rfl))⟩
  t0 := Tryz.underlying0
  a0 := Tryz.isAgg0
  z0 := Tryz.sizeOf0
  v0 := Tryz.zeroValue0
  t3 := Tryz.underlying3
  a3 := Tryz.isAgg3
  z3 := Tryz.sizeOf3
  v3 := Tryz.zeroValue3
  t4 := Tryz.underlying4
  a4 := Tryz.isAgg4
  z4 := Tryz.sizeOf4
  v4 := Tryz.zeroValue4
  t22 := Tryz.underlying191
  a22 := Tryz.isAgg191
  z22 := Tryz.sizeOf191
  v22 := Tryz.zeroValue191
  t25 := Tryz.underlying192
  a25 := Tryz.isAgg192
  z25 := Tryz.sizeOf192
  v25 := Tryz.zeroValue192 }
end Go.Proofs
namespace Go.Proofs.YtkjnbfjbdlcehaaGreatDoor.P
open Go.RowKit Go.Proofs.YtkjnbfjbdlcehaaGreatDoorW.PrintWords Go.Proofs.YtkjnbfjbdlcehaaGreatDoorW.PrintLast Go.Proofs.YtkjnbfjbdlcehaaGreatDoorW.PrintMore
set_option linter.unusedVariables false
set_option linter.unusedSimpArgs false
theorem infoStr : (Tryz.prog.info? 9).map (fun i => (i.zero, i.size, i.bytes)) = some (some (.string ⟨#[]⟩), 1, 16) := by kernel_rfl
theorem infoInt : (Tryz.prog.info? 3).map (fun i => (i.zero, i.size, i.bytes)) = some (some (.int .i64 0), 1, 8) := by kernel_rfl
/-- A kind's word, and which function asks. -/
structure KD where
  word : ByteArray
  fn : Nat
instance : Inhabited KD := ⟨⟨⟨#[]⟩, 0⟩⟩
def encD (x : KD) : List Value := [.string x.word, .func (.func x.fn) #[] #[]]
def kinds5 : List KD := [⟨⟨#[99, 111, 117, 110, 116, 101, 114]⟩, 88⟩, ⟨⟨#[115, 101, 116]⟩, 89⟩, ⟨⟨#[109, 97, 112]⟩, 90⟩, ⟨⟨#[113, 117, 101, 117, 101]⟩, 91⟩, ⟨⟨#[101, 115, 99, 114, 111, 119]⟩, 92⟩]
theorem kinds5_A : kindsA = (kinds5.flatMap encD).toArray := rfl
theorem kinds5_cells (w1 : World) (g1 : Nat) (hblk : w1.heap[g1]? = some (.cells kindsA 98)) : ∀ j, j < kinds5.length → ∀ i v, (encD kinds5[j]!)[i]? = some v → w1.cell? ⟨g1, 0 + j * 2 + i, none⟩ = some v := by
  intro j hj i v hv
  have hi : i < 2 := (List.getElem?_eq_some_iff.1 hv).1
  rw [blk_cell hblk]
  have hj5 : j = 0 ∨ j = 1 ∨ j = 2 ∨ j = 3 ∨ j = 4 := by simp [kinds5] at hj; omega
  have hi2 : i = 0 ∨ i = 1 := by omega
  rcases hj5 with rfl | rfl | rfl | rfl | rfl <;> rcases hi2 with rfl | rfl <;> exact hv
/-- Where a word's kind stands. -/
def wIdx (s : ByteArray) : Int := Lib.idxBy (fun _ y => decide (y.word = s)) (kinds5.take 5) default
theorem bl5_eq (a b : ByteArray) : (a.toList == b.toList) = decide (a = b) := by
  rw [Bool.eq_iff_iff, beq_iff_eq, decide_eq_true_iff]
  constructor
  · intro h
    rw [ByteArray.toList_eq, ByteArray.toList_eq] at h
    cases a
    cases b
    exact congrArg ByteArray.mk (Array.toList_inj.1 h)
  · rintro rfl
    rfl
set_option maxHeartbeats 1000000 in
set_option maxRecDepth 100000 in
theorem rd1_calls (x : KD) (Bp Bs N : Nat) (p0 : ByteArray) (w0 W : World) (hb : Below w0.heap.size w0 W) (hB : Bp < w0.heap.size) (hBs : Bs < w0.heap.size) (hc : w0.cell? ⟨Bp, 0, none⟩ = some (.slice (some ⟨Bs, 0, none⟩) N N)) (hs : w0.cell? ⟨Bs, 0, none⟩ = some (.string p0)) (hN : 0 < N) :
    Calls Tryz.prog 147 #[.agg (encD x).toArray, .pointer (some ⟨Bp, 0, none⟩)] W fun e w' => e = .returned (.bool (decide (x.word = p0))) ∧ Below w0.heap.size w0 w' := by
  have hc' : W.cell? ⟨Bp, 0, none⟩ = some (.slice (some ⟨Bs, 0, none⟩) N N) := (hb.cell (p := ⟨Bp, 0, none⟩) hB).trans hc
  have hs' : W.cell? ⟨Bs, 0, none⟩ = some (.string p0) := (hb.cell (p := ⟨Bs, 0, none⟩) hBs).trans hs
  have HB := Aside0.mk hb
  have hsz := hb.size
  have hBW : Bp < W.heap.size := Nat.lt_of_lt_of_le hB hsz
  have hBW2 : Bs < W.heap.size := Nat.lt_of_lt_of_le hBs hsz
  have p1 : (0 : Int) < (N : Int) := by omega
  have p2 := eq_true p1
  clear hb hc hs hB hBs
  unfold encD
  go_enter Tryz.func147, Tryz.ntmps147
  go_wp2
  go_quiet (fail)
  go_wp2
  refine bodyPost_ret (results_tmp rfl _ _ _) rfl ?_
  refine ⟨?_, ?_⟩
  · exact congrArg (fun b => Ending.returned (Value.bool b)) (bl5_eq x.word p0)
  · first | exact HB.out.alloc hsz _ | exact pw_below_drewN (HB.out.alloc hsz _) _
def spl (s : ByteArray) : List ByteArray := Lib.splitB ⟨#[32]⟩ 0 (Lib.countB s ⟨#[32]⟩) s
theorem split_calls (s : ByteArray) (w : World) (hs : s.size < 4294967281) :
    Calls Tryz.prog 145 #[.string s, .string ⟨#[32]⟩] w fun e w' => e = .returned (.slice (some ⟨w.heap.size, 0, none⟩) (spl s).length (spl s).length) ∧ w' = w.alloc (.cells ((spl s).map Value.string).toArray 9) := by
  have h1 : 1 ≤ (⟨#[32]⟩ : ByteArray).size := by decide
  have hle := Lib.countB_le ⟨#[32]⟩ h1 s.size s (Nat.le_refl _)
  have hlen := Lib.splitB_all ⟨#[32]⟩ h1 0 _ s rfl
  have c := Any.strings_genSplit_core (P := Tryz.prog) (ρ := Tryz.lays146_ren) { Tryz.lays146 with } (by kernel_rfl) s ⟨#[32]⟩ 0 (-1) (Lib.countB s ⟨#[32]⟩ + 1) w hs h1 (Nat.zero_le _)
    (fun x c hx => (Any.strings_Index_one { Tryz.lays146 with } x 32 _).mono fun e w' ⟨he, hw⟩ => ⟨by
      rw [he]
      show _ = Ending.returned (Value.int .i64 (Lib.index x.data.toList [32]))
      rw [Lib.index_one], hw⟩)
    ((Any.strings_Count_one { Tryz.lays146 with } s 32 w).mono fun e w' ⟨he, hw⟩ => ⟨by
      rw [he]
      show _ = Ending.returned (Value.int .i64 ((Lib.count s.data.toList [32] : Nat) : Int))
      rw [Lib.count_one]
      rfl, hw⟩)
    (by decide) (by decide) (by rw [if_pos (by decide)]; omega)
  rw [Nat.add_sub_cancel, hlen] at c
  have e2 : Lib.cellsOf (spl s) (Lib.countB s ⟨#[32]⟩ + 1) = ((spl s).map Value.string).toArray := by
    unfold spl
    rw [← hlen]
    exact Lib.cellsOf_full _
  have c' := Aside0.mk c
  clear c
  go_enter Tryz.func145, Tryz.ntmps145
  go_wp2_with fail
  refine c'.out.mono ?_
  rintro e w' ⟨rfl, hw⟩
  rw [hw]
  go_wp2
  refine bodyPost_ret (results_tmp rfl _ _ _) rfl ?_
  refine ⟨?_, ?_⟩
  · unfold spl
    rw [hlen]
    rfl
  · rw [← e2]
    rfl
end Go.Proofs.YtkjnbfjbdlcehaaGreatDoor.P
namespace Go.Proofs.YtkjnbfjbdlcehaaGreatDoor.P
open Go.RowKit Go.Proofs.YtkjnbfjbdlcehaaGreatDoorW.PrintWords Go.Proofs.YtkjnbfjbdlcehaaGreatDoorW.PrintLast Go.Proofs.YtkjnbfjbdlcehaaGreatDoorW.PrintMore
set_option linter.unusedVariables false
set_option linter.unusedSimpArgs false
/-- The numbers of parts, from the byte at on; or the fault. -/
def readGo : List ByteArray → Int → List Int → Option (Sum (Int × Int) (List Int))
  | [], _, acc => some (.inr acc)
  | p :: ps, at_, acc => (number_Get.f p).bind fun g => if (g.2.1 == 0 && g.2.2 == 0) = true then readGo ps (at_ + ((p.size : Int) + 1)) (acc ++ [g.1]) else some (.inl (g.2.1, at_ + g.2.2))
def readFin (t n : Int) (l : List Int) : Option (Int × Int × List Int × Int × Int) := (state_Check.f t n l).bind fun e => if e = 0 then some (t, n, l, 0, 0) else some (0, 0, [], 5, 0)
def readEnd (t : Int) : Sum (Int × Int) (List Int) → Option (Int × Int × List Int × Int × Int)
  | .inl ea => some (0, 0, [], ea.1, ea.2)
  | .inr l => if t = 1 ∨ t = 5 then (match l with | [n] => readFin t n [] | _ => some (0, 0, [], 5, 0)) else readFin t 0 l
def readAll (t : Int) (s : List ByteArray) (p0 : ByteArray) : Option (Int × Int × List Int × Int × Int) :=
  if t = 0 then some (0, 0, [], 6, 0) else (readGo s ((p0.size : Int) + 1) []).bind (readEnd t)
def state_Read.f (a0 : ByteArray) : Option (Int × Int × List Int × Int × Int) :=
  if a0.size ≤ 1000000 then (match spl a0 with | [] => none | p0 :: ps => readAll (1 + wIdx p0) ps p0) else none
theorem wIdx_cases (s : ByteArray) : -1 ≤ wIdx s ∧ wIdx s < 5 := by
  have hgen : ∀ (l : List KD) (k : Nat), Lib.idxByFrom (fun _ y => decide (y.word = s)) default l k = -1 ∨ ∃ i : Nat, i < k + l.length ∧ Lib.idxByFrom (fun _ y => decide (y.word = s)) default l k = (i : Int) := by
    intro l
    induction l with
    | nil => intro k; exact .inl rfl
    | cons y l ih =>
      intro k
      unfold Lib.idxByFrom
      split
      · exact .inr ⟨k, by simp, rfl⟩
      · rcases ih (k + 1) with h | ⟨i, hi, h⟩
        · exact .inl h
        · exact .inr ⟨i, by simp only [List.length_cons]; omega, h⟩
  rcases hgen (kinds5.take 5) 0 with h | ⟨i, hi, h⟩
  · have : wIdx s = -1 := h
    omega
  · have h1 : wIdx s = (i : Int) := h
    have h2 : i < 0 + 5 := hi
    omega
theorem splitB_size (sep : ByteArray) : ∀ (k : Nat) (s : ByteArray), ∀ x ∈ Lib.splitB sep 0 k s, x.size ≤ s.size
  | 0, s => by
    intro x hx
    rw [Lib.splitB_zero, List.mem_singleton] at hx
    rw [hx]
    exact Nat.le_refl _
  | k + 1, s => by
    intro x hx
    unfold Lib.splitB at hx
    split at hx
    · rw [List.mem_singleton] at hx
      rw [hx]
      exact Nat.le_refl _
    · rcases List.mem_cons.1 hx with rfl | hx
      · rw [ByteArray.size_extract]
        omega
      · have := splitB_size sep k _ x hx
        rw [ByteArray.size_extract] at this
        omega
theorem parts_size (s : ByteArray) : ∀ x ∈ spl s, x.size ≤ s.size := splitB_size _ _ s
theorem scan_lt5 {s : ByteArray} {f : Nat} : ∀ (k i j : Nat), scan s f k i = some j → j < s.size
  | 0, i, j, h => by simp [scan] at h
  | k + 1, i, j, h => by
    unfold scan at h
    split at h
    · split at h
      · have := Option.some.inj h
        omega
      · exact scan_lt5 k _ _ h
    · cases h
theorem parts_len (s : ByteArray) : (spl s).length ≤ s.size + 1 := by
  have h1 : 1 ≤ (⟨#[32]⟩ : ByteArray).size := by decide
  have hlen := Lib.splitB_all ⟨#[32]⟩ h1 0 _ s rfl
  have hle := Lib.countB_le ⟨#[32]⟩ h1 s.size s (Nat.le_refl _)
  unfold spl
  omega
theorem four_blocks (w : World) (o0 o1 o2 o3 : Obj) : ((((w.alloc o0).alloc o1).alloc o2).alloc o3).heap[w.heap.size]? = some o0 ∧ ((((w.alloc o0).alloc o1).alloc o2).alloc o3).heap[w.heap.size + 1]? = some o1 ∧ ((((w.alloc o0).alloc o1).alloc o2).alloc o3).heap[w.heap.size + 1 + 1]? = some o2 ∧ ((((w.alloc o0).alloc o1).alloc o2).alloc o3).heap[w.heap.size + 1 + 1 + 1]? = some o3 ∧ Below w.heap.size w ((((w.alloc o0).alloc o1).alloc o2).alloc o3) := by
  have e0 := blk_new w o0
  have e1 := blk_new (w.alloc o0) o1
  have e2 := blk_new ((w.alloc o0).alloc o1) o2
  have e3 := blk_new (((w.alloc o0).alloc o1).alloc o2) o3
  simp only [World.size_alloc] at e0 e1 e2 e3
  exact ⟨blk_alloc (blk_alloc (blk_alloc e0 _) _) _, blk_alloc (blk_alloc e1 _) _, blk_alloc e2 _, e3, below_alloc (below_alloc (below_alloc ((Below.refl _ w).alloc (Nat.le_refl _) _) _) _) _⟩
theorem single_f (t : Int) : state_single.f t = some (decide (t = 1 ∨ t = 5)) := by
  unfold state_single.f
  by_cases h1 : t = 1
  · rw [if_pos h1]
    simp [h1]
  · rw [if_neg h1]
    by_cases h5 : t = 5
    · subst h5
      rfl
    · simp [h1, h5]
theorem own5_below_row {W w' : World} {base : Nat} {e : TypeId} {size n : Nat} {v : Value} {xs : List Value} (h : W.ownsRow base e size v n xs) (hb : Below W.heap.size W w') : w'.ownsRow base e size v n xs := by
  refine own_move h (fun k hk => ?_)
  obtain ⟨cells, hc⟩ := own_typed h k hk
  exact hb.block k (Array.getElem?_eq_some_iff.1 hc).1
theorem new_blk {X : World} {n : Nat} (hn : X.heap.size = n) (o : Obj) : (X.alloc o).heap[n]? = some o := hn ▸ blk_new X o
theorem readEnd_bad {t : Int} (ht : t = 1 ∨ t = 5) {acc : List Int} (h : acc.length ≠ 1) : readEnd t (.inr acc) = some (0, 0, [], 5, 0) := by
  unfold readEnd
  simp only
  rw [if_pos ht]
  match acc, h with
  | [], _ => rfl
  | [n], h => exact absurd rfl h
  | n :: m :: r, _ => rfl
theorem own_lower {w : World} {base base' : Nat} {e : TypeId} {size n : Nat} {v : Value} {xs : List Value} (h : w.ownsRow base e size v n xs) (hb : base' ≤ base) : w.ownsRow base' e size v n xs := by
  refine ⟨h.1, ?_⟩
  rcases h.2 with h' | ⟨g, cap, cur, h1, h2, h3⟩
  · exact .inl h'
  · exact .inr ⟨g, cap, cur, h1, Nat.le_trans hb h2, h3⟩
theorem own_slice {w : World} {base : Nat} {e : TypeId} {size n : Nat} {v : Value} {xs : List Value} (h : w.ownsRow base e size v n xs) : ∃ A c, v = .slice A n c := by
  rcases h.2 with ⟨rfl, rfl⟩ | ⟨g, cap, cur, rfl, _⟩
  · exact ⟨_, _, rfl⟩
  · exact ⟨_, _, rfl⟩
theorem own_set {w : World} {base : Nat} {e : TypeId} {size n : Nat} {v : Value} {xs : List Value} (h : w.ownsRow base e size v n xs) (p : Addr) (hp : p.block < base) (u : Value) : (w.setCell p u).ownsRow base e size v n xs :=
  own_move h (fun k hk => Below.heap_setCell _ _ _ k (by have := own_base h k hk; omega))
theorem get_err {s : ByteArray} {n e a : Int} (h : number_Get.f s = some (n, e, a)) : (e = 0 → a = 0) ∧ 0 ≤ a ∧ a ≤ 1000000 := by
  unfold number_Get.f at h
  split at h
  · simp only [Option.some.injEq, Prod.mk.injEq] at h
    omega
  · rename_i h20
    unfold getRest at h
    split at h
    · rename_i i hi
      have := scan_lt5 _ _ _ hi
      simp only [Option.some.injEq, Prod.mk.injEq] at h
      omega
    · split at h
      · simp only [Option.some.injEq, Prod.mk.injEq] at h
        omega
      · unfold getParse at h
        split at h
        · simp only [Option.some.injEq, Prod.mk.injEq] at h
          omega
        · simp only [Option.some.injEq, Prod.mk.injEq] at h
          omega
        · cases h
theorem ends {w W : World} {B b1 : Nat} {u0 u1 u2 v0 v1 : Value} (h0 : W.heap[B]? = some (.cells #[u0, u1, u2] 36)) (h1 : W.heap[b1]? = some (.cells #[v0, v1] 44)) (hB : Below w.heap.size w W) (hle : w.heap.size ≤ B) (hlt : B < b1) (x y z e a : Value) :
    (((((W.setCell ⟨B, 0, none⟩ x).setCell ⟨B, 1, none⟩ y).setCell ⟨B, 2, none⟩ z).setCell ⟨b1, 0, none⟩ e).setCell ⟨b1, 1, none⟩ a).heap[B]? = some (.cells #[x, y, z] 36) ∧ (((((W.setCell ⟨B, 0, none⟩ x).setCell ⟨B, 1, none⟩ y).setCell ⟨B, 2, none⟩ z).setCell ⟨b1, 0, none⟩ e).setCell ⟨b1, 1, none⟩ a).heap[b1]? = some (.cells #[e, a] 44) ∧ Below w.heap.size w (((((W.setCell ⟨B, 0, none⟩ x).setCell ⟨B, 1, none⟩ y).setCell ⟨B, 2, none⟩ z).setCell ⟨b1, 0, none⟩ e).setCell ⟨b1, 1, none⟩ a) := by
  have hne : B ≠ b1 := by omega
  have hne' : b1 ≠ B := by omega
  have k1 : (W.setCell ⟨B, 0, none⟩ x).heap[B]? = some (.cells #[x, u1, u2] 36) := blk_put h0 0 x rfl
  have k2 : ((W.setCell ⟨B, 0, none⟩ x).setCell ⟨B, 1, none⟩ y).heap[B]? = some (.cells #[x, y, u2] 36) := blk_put k1 1 y rfl
  have k3 : (((W.setCell ⟨B, 0, none⟩ x).setCell ⟨B, 1, none⟩ y).setCell ⟨B, 2, none⟩ z).heap[B]? = some (.cells #[x, y, z] 36) := blk_put k2 2 z rfl
  have j3 : (((W.setCell ⟨B, 0, none⟩ x).setCell ⟨B, 1, none⟩ y).setCell ⟨B, 2, none⟩ z).heap[b1]? = some (.cells #[v0, v1] 44) := blk_far (blk_far (blk_far h1 hne' x) hne' y) hne' z
  have j4 : ((((W.setCell ⟨B, 0, none⟩ x).setCell ⟨B, 1, none⟩ y).setCell ⟨B, 2, none⟩ z).setCell ⟨b1, 0, none⟩ e).heap[b1]? = some (.cells #[e, v1] 44) := blk_put j3 0 e rfl
  exact ⟨blk_far (blk_far k3 hne e) hne a, blk_put j4 1 a rfl, ((((hB.setCell (p := ⟨B, 0, none⟩) hle _).setCell (p := ⟨B, 1, none⟩) hle _).setCell (p := ⟨B, 2, none⟩) hle _).setCell (p := ⟨b1, 0, none⟩) (Nat.le_trans hle (Nat.le_of_lt hlt)) _).setCell (p := ⟨b1, 1, none⟩) (Nat.le_trans hle (Nat.le_of_lt hlt)) _⟩
set_option maxHeartbeats 8000000 in
set_option maxRecDepth 100000 in
theorem read_walk (a0 : ByteArray) (ha : a0.size ≤ 1000000) (p0 : ByteArray) (ps : List ByteArray) (hsp : spl a0 = p0 :: ps) (t : Int) (ht : 1 + wIdx p0 = t) (r1 r2 : Int) (r3 : List Int) (r4 r5 : Int) (w : World) (hG : GOk w) (h : readAll t ps p0 = some (r1, r2, r3, r4, r5)) :
    Calls Tryz.prog 121 #[.string a0] w fun e w' => ∃ v2_ : Value, e = .returned (.tuple #[.agg #[.int .i64 r1, .int .i64 r2, v2_], .agg #[.int .i64 r4, .int .i64 r5]]) ∧ Kd.R (Kd.int .i64) 3 w' w.heap.size (fun _ => True) v2_ r3 ∧ Below w.heap.size w w' := by
  obtain ⟨i0, hi0, hz0, hz1, hz2⟩ := info_parts infoInt
  have hu27 := Tryz.underlying36
  have hu32 := Tryz.underlying44
  have hpl := parts_len a0
  rw [hsp] at hpl
  have HSZ : Aside0 (∀ x ∈ p0 :: ps, x.size ≤ 1000000) := ⟨fun x hx => Nat.le_trans (parts_size a0 x (hsp ▸ hx)) ha⟩
  have HSP := Aside0.mk (fun W => split_calls a0 W (by omega))
  rw [hsp] at HSP
  have hN : (p0 :: ps).length = ps.length + 1 := rfl
  have HT := Aside0.mk ht
  have HH := Aside0.mk h
  have HG := Aside0.mk hG
  have hN2 : ps.length ≤ 1000000 := by simp at hpl; omega
  rw [hN] at HSP
  have HN := Aside0.mk hN
  have HN2 := Aside0.mk hN2
  clear hsp ht h hG hpl hN hN2
  go_enter Tryz.func121, Tryz.ntmps121
  go_wp2_with fail
  refine (HSP.out _).mono ?_
  rintro e w1 ⟨rfl, rfl⟩
  go_wp2_with fail
  have HF := four_blocks w (.cells #[.int .i64 0, .int .i64 0, .slice none 0 0] 36) (.cells #[.int .i64 0, .int .i64 0] 44) (.cells (Value.string p0 :: List.map Value.string ps).toArray 9) (.cells #[.slice (some ⟨w.heap.size + 1 + 1, 0, none⟩) (ps.length + 1) (ps.length + 1)] 50)
  generalize (((w.alloc (.cells #[.int .i64 0, .int .i64 0, .slice none 0 0] 36)).alloc (.cells #[.int .i64 0, .int .i64 0] 44)).alloc (.cells (Value.string p0 :: List.map Value.string ps).toArray 9)).alloc (.cells #[.slice (some ⟨w.heap.size + 1 + 1, 0, none⟩) (ps.length + 1) (ps.length + 1)] 50) = W at HF ⊢
  obtain ⟨h0, h1, h2, h3, hB⟩ := HF
  have HBS := Aside0.mk (show w.heap.size ≤ w.heap.size from Nat.le_refl _)
  generalize hg1 : w.heap.size + 1 = b1 at h1 h2 h3 ⊢
  generalize hg2 : b1 + 1 = b2 at h2 h3 ⊢
  generalize hg3 : b2 + 1 = b3 at h3 ⊢
  have HLE := Aside0.mk (show w.heap.size < b1 ∧ b1 < b2 ∧ b2 < b3 by omega)
  clear hg1 hg2 hg3
  have H0 := Aside0.mk h0
  have H1 := Aside0.mk h1
  have H2 := Aside0.mk h2
  have H3 := Aside0.mk h3
  have HB := Aside0.mk hB
  clear h0 h1 h2 h3 hB HBS
  refine (kinds5_calls _).mono ?_
  rintro e w2 ⟨rfl, hb2⟩
  have HB2 := Aside0.mk hb2
  clear hb2
  unfold kindsA
  go_wp2_with fail
  have hB5 : Below W.heap.size W (w2.alloc (.cells kindsA 98)) := HB2.out.alloc HB2.out.size _
  have h35 := blk_below H3.out hB5
  have h25 := blk_below H2.out hB5
  have HI : Calls Tryz.prog 146 #[.slice (some ⟨w2.heap.size, 0, none⟩) 5 5, .func (.func 147) #[] #[.pointer (some ⟨b3, 0, none⟩)]] (w2.alloc (.cells kindsA 98)) fun e w' => e = .returned (.int .i64 (wIdx p0)) ∧ Below (w2.alloc (.cells kindsA 98)).heap.size (w2.alloc (.cells kindsA 98)) w' :=
    AnyQ.slices_IndexFunc Tryz.laysIdx5 2 (fun w => Tryz.isAgg97 w) (fun w => Tryz.sizeOf97 w) encD (fun _ => rfl) (fun y => decide (y.word = p0)) 147 #[.pointer (some ⟨b3, 0, none⟩)] (enters_of Tryz.func147 (by kernel_rfl) rfl) w2.heap.size 0 5 5 kinds5 (w2.alloc (.cells kindsA 98))
      (fun W' x hb' => rd1_calls x b3 b2 (ps.length + 1) p0 _ W' hb' (blk_lt h35) (blk_lt h25) (blk_cell h35 0) ((blk_cell h25 0).trans rfl) (Nat.succ_pos _)) (by decide) (by omega) (blk_lt (blk_new _ _)) (kinds5_cells _ _ (blk_new _ _))
  have HI := Aside0.mk HI
  have hx := wIdx_cases p0
  have HXX := HT.out
  generalize wIdx p0 = idx at HI hx HXX
  have HT' := Aside0.mk HXX
  have x1 : -1 ≤ idx := hx.1
  have x2 : idx < 5 := hx.2
  have HB5 := Aside0.mk hB5
  clear HT hx HXX h35 h25 hB5
  refine HI.out.mono ?_
  rintro e w6 ⟨rfl, hb6⟩
  have HB6 := Aside0.mk (HB5.out.trans (hb6.mono HB5.out.size))
  clear hb6 HB5 HB2 HI
  have H06 := Aside0.mk (blk_below H0.out HB6.out)
  have H16 := Aside0.mk (blk_below H1.out HB6.out)
  have H26 := Aside0.mk (blk_below H2.out HB6.out)
  have H36 := Aside0.mk (blk_below H3.out HB6.out)
  have HBw := Aside0.mk (HB.out.trans (HB6.out.mono HB.out.size))
  clear H0 H1 H2 H3 HB HB6
  have c00 := (blk_cell H06.out 0).trans rfl
  have c01 := (blk_cell H06.out 1).trans rfl
  have c02 := (blk_cell H06.out 2).trans rfl
  have c10 := (blk_cell H16.out 0).trans rfl
  have c11 := (blk_cell H16.out 1).trans rfl
  have f00 := blk_frozen H06.out 0
  have f01 := blk_frozen H06.out 1
  have f02 := blk_frozen H06.out 2
  have f10 := blk_frozen H16.out 0
  have f11 := blk_frozen H16.out 1
  have s0 := blk_lt H06.out
  have s1 := blk_lt H16.out
  have n01 : w.heap.size ≠ b1 := by have := HLE.out; omega
  by_cases ct : t = 0
  · subst ct
    have hx := HT'.out
    have hH := HH.out
    unfold readAll at hH
    rw [if_pos rfl] at hH
    simp only [Option.some.injEq, Prod.mk.injEq] at hH
    obtain ⟨rfl, rfl, rfl, rfl, rfl⟩ := hH
    go_wp2
    obtain ⟨E0, E1, E2⟩ := ends H06.out H16.out HBw.out (Nat.le_refl _) HLE.out.1 (.int .i64 0) (.int .i64 0) (.slice none 0 0) (.int .i64 6) (.int .i64 0)
    refine bodyPost_ret (results_cc rfl _ _ w.heap.size b1 36 44 _ _ (0, 0) (0, 0) _ _ rfl (blk_alloc E0 _) Tryz.underlying36 rfl (by kernel_rfl) rfl (blk_alloc E1 _) Tryz.underlying44 rfl (by kernel_rfl)) rfl ?_
    exact ⟨_, rfl, Kd.R_nil _ _ _ _ _, below_alloc E2 _⟩
  have hH := HH.out
  unfold readAll at hH
  rw [if_neg ct] at hH
  obtain ⟨R, hR, hE⟩ := Option.bind_eq_some_iff.1 hH
  have HR := Aside0.mk hR
  have HE := Aside0.mk hE
  have cx : (t == 0) = false := beq_eq_false_iff_ne.2 ct
  have c30 := (blk_cell H36.out 0).trans rfl
  have c20 : w6.cell? ⟨b2, 0, none⟩ = some (.string p0) := (blk_cell H26.out 0).trans rfl
  have s2 := blk_lt H26.out
  have s3 := blk_lt H36.out
  obtain ⟨iS, hiS, _, hsS, _⟩ := info_parts infoStr
  obtain ⟨A9, hcut, hrd9, _⟩ := print_drop_of (P := Tryz.prog) Value.string ByteArray.empty 50 9 .i64 Tryz.underlying50 hiS hsS (some ⟨b2, 0, none⟩) (ps.length + 1) (p0 :: ps) 1 (by decide) (by simp; omega) (Nat.le_refl _)
  have hcut' : ∀ W, (Instr.slice 50 (.slice (some ⟨b2, 0, none⟩) (ps.length + 1) (ps.length + 1)) (some (.int .i64 1)) none none).run Tryz.prog W = .ok (.slice A9 ps.length ps.length) W := hcut
  have hrd : ReadsOf Value.string ByteArray.empty w6 A9 ps.length ps := by
    refine hrd9 w6 ⟨rfl, by have := HN2.out; simp; omega, fun _ => ⟨_, rfl, fun j hj => ?_⟩⟩
    have e : (⟨b2, 0, none⟩ : Addr).add j = ⟨b2, j, none⟩ := by
      simp [Addr.add]
      exact fun h => h.symm
    rw [e, blk_cell H26.out]
    have : (Value.string p0 :: List.map Value.string ps) = (p0 :: ps).map Value.string := rfl
    rw [this, List.getElem?_toArray, List.getElem?_map, List.getD_eq_getElem?_getD, List.getElem?_eq_getElem hj]
    rfl
  have HRD := Aside0.mk hrd
  have HCUT := Aside0.mk hcut'
  have hsz0 : p0.size ≤ 1000000 := HSZ.out p0 List.mem_cons_self
  have hx := HT'.out
  have q1 : (0 : Int) < (ps.length : Int) + 1 := by omega
  have q2 := eq_true q1
  have CT := Aside0.mk ct
  have HSI := Aside0.mk (fun W => state_single.calls t _ W (single_f t))
  obtain ⟨sb, hsd⟩ : ∃ sb : Bool, sb = decide (t = 1 ∨ t = 5) := ⟨_, rfl⟩
  rw [← hsd] at HSI
  have HSD := Aside0.mk hsd
  have HP0 := Aside0.mk hsz0
  have hsz1 : (p0.size : Int) ≤ 1000000 := by omega
  clear hH hR hE hcut hrd9 hrd hiS hsS ct hsd hsz0
  go_wp2_with fail
  clear c00 c01 c02 c10 c11 f00 f01 f02 f10 f11 c30 c20 cx hx hcut' x1 x2
  have HZ0 := Aside0.mk (blk_new w6 (.cells #[.int .i64 t, .int .i64 0, .slice none 0 0] 36))
  have HBB0 := Aside0.mk (show Below w6.heap.size w6 (w6.alloc (.cells #[.int .i64 t, .int .i64 0, .slice none 0 0] 36)) from (Below.refl _ _).alloc (Nat.le_refl _) _)
  generalize w6.alloc (.cells #[.int .i64 t, .int .i64 0, .slice none 0 0] 36) = W7 at HZ0 HBB0 ⊢
  go_loopg [7, 33] ps.length (fun kq v7 v33 wr => ∃ (i : Nat) (at_ : Int), v7 = .int .i64 at_ ∧ v33 = .int .i64 (i : Int) ∧ Aside0 (i + kq = ps.length) ∧ Aside0 (0 ≤ at_ ∧ at_ ≤ ((i : Int) + 1) * 1000001) ∧ Aside0 (∃ acc v, wr.heap[w6.heap.size]? = some (.cells #[.int .i64 t, .int .i64 0, v] 36) ∧ wr.ownsRow (w6.heap.size + 1) 3 1 v acc.length (acc.map (Value.int .i64)) ∧ acc.length = i ∧ readGo (ps.drop i) at_ acc = some R) ∧ Aside0 (Below w6.heap.size w6 wr))
  case atStart => exact ⟨0, (p0.size : Int) + 1, rfl, rfl, ⟨by omega⟩, ⟨by have := HP0.out; omega⟩, ⟨[], _, HZ0.out, World.ownsRow_nil _ _ _ _, rfl, HR.out⟩, HBB0⟩
  case round =>
    obtain ⟨i, at_, rfl, rfl, HI, HAT, HACC, HBr⟩ := hrel
    obtain ⟨acc, v, hz, hown, hal, hgo⟩ := HACC.out
    have s4 : w6.heap.size < wr.heap.size := blk_lt hz
    have l0 : w.heap.size < wr.heap.size := Nat.lt_trans s0 s4
    have l1 : b1 < wr.heap.size := Nat.lt_trans s1 s4
    have HZ := Aside0.mk hz
    have HO := Aside0.mk hown
    have HAL := Aside0.mk hal
    clear HACC
    by_cases c1 : i < ps.length
    · have c1n : decide (i < ps.length) = true := decide_eq_true c1
      have c1b : decide ((i : Int) < (ps.length : Int)) = true := decide_eq_true (by omega)
      obtain ⟨ad, rfl, hcell⟩ := ReadsOf.at_ (HRD.out.below HBr.out) (i : Int) (by omega) (by omega)
      have hp : rdOf ByteArray.empty ps (i : Int) = ps[i] := by
        unfold rdOf
        rw [Int.toNat_natCast, List.getD_eq_getElem?_getD, List.getElem?_eq_getElem c1]
        rfl
      have hps : ps[i].size ≤ 1000000 := HSZ.out _ (List.mem_cons_of_mem _ (List.getElem_mem c1))
      rw [List.drop_eq_getElem_cons c1, readGo] at hgo
      rw [hp, Int.toNat_natCast] at hcell
      obtain ⟨p, hpe⟩ : ∃ p, p = ps[i] := ⟨_, rfl⟩
      rw [← hpe] at hcell hgo hps
      clear hp hpe
      obtain ⟨⟨n, e, a⟩, hg, hgo⟩ := Option.bind_eq_some_iff.1 hgo
      obtain ⟨ge1, ge2, ge3⟩ := get_err hg
      have HGET := Aside0.mk (fun W hGW => number_Get.calls p n e a W hGW hg)
      have HEW : Aside0 (wrap64 ((i : Int) + 1) = ((i + 1 : Nat) : Int)) := ⟨by have := HN2.out; unfold wrap64; omega⟩
      have p1 := eq_true (show 0 ≤ (i : Int) by omega)
      have p2 := eq_true (show (i : Int) < (ps.length : Int) by omega)
      have HN2' := HN2.out
      have hati := HAT.out
      have at1 : 0 ≤ at_ := hati.1
      have at2 : at_ ≤ 2000002000000 := by have := hati.2; omega
      have at3 : (p.size : Int) ≤ 1000000 := by omega
      obtain ⟨k1, rfl⟩ : ∃ k1, gk = k1 + 1 := ⟨gk - 1, by have := HI.out; omega⟩
      have HGO := Aside0.mk hgo
      have C1 := Aside0.mk c1
      have HPS := Aside0.mk hps
      clear hg hgo hz hown hal hati HN2' c1 hps
      go_wp2_with fail
      refine (HGET.out _ (GOk.below HG.out (HBw.out.trans (HBr.out.mono HBw.out.size)))).mono ?_
      rintro er w8 ⟨rfl, hb8⟩
      clear hcell
      have HZ8 := Aside0.mk (blk_below HZ.out hb8)
      have HO8 := Aside0.mk (own5_below_row HO.out hb8)
      have HB8 := Aside0.mk (HBr.out.trans (hb8.mono HBr.out.size))
      have s8 : w6.heap.size < w8.heap.size := blk_lt HZ8.out
      clear hb8
      have g0 := (blk_cell HZ8.out 0).trans rfl
      have g1 := (blk_cell HZ8.out 1).trans rfl
      have g2 : w8.cell? ⟨w6.heap.size, 2, none⟩ = some v := (blk_cell HZ8.out 2).trans rfl
      have q0 := blk_frozen HZ8.out 2
      by_cases ce : e = 0
      · obtain rfl := ge1 ce
        subst ce
        have HGO2 := Aside0.mk (show readGo (ps.drop (i + 1)) (at_ + ((p.size : Int) + 1)) (acc ++ [n]) = some R from HGO.out)
        have hn63 : acc.length + 1 ≤ maxLen := by have := C1.out; have := HN2.out; have := HAL.out; unfold maxLen; omega
        have hn47 : (acc.length + 1) * 8 ≤ 140737488355328 := by have := C1.out; have := HN2.out; have := HAL.out; omega
        have hbs : w6.heap.size + 1 ≤ ((w8.alloc (.cells #[.int .i64 0, .int .i64 0] 44)).alloc (.cells #[.int .i64 n] 3)).heap.size := by simp; omega
        have HN5 := Aside0.mk (And.intro hn63 (And.intro hn47 hbs))
        clear hn63 hn47 hbs
        have HNE : Aside0 (some w6.heap.size ≠ v.ownBlock) := ⟨fun e => by have := own_base HO8.out _ e.symm; omega⟩
        have HNEW : Aside0 (∀ (j : Nat) (u : Value), [Value.int .i64 n][j]? = some u → ((w8.alloc (.cells #[.int .i64 0, .int .i64 0] 44)).alloc (.cells #[.int .i64 n] 3)).cell? ((⟨w8.heap.size + 1, 0, none⟩ : Addr).add j) = some u) := ⟨fun j u hu => by have h := cell_one_new (w8.alloc (.cells #[.int .i64 0, .int .i64 0] 44)) (Value.int .i64 n) 3 j u hu; rw [World.size_alloc] at h; exact h⟩
        go_wp2_with (at_builtin; refine wpList_append_own_at _ rfl _ _ 34 rfl (w6.heap.size + 1) 3 i0 (.int .i64 0) 1 8 Tryz.underlying34 hi0 hz0 hz1 hz2 rfl (by decide) v acc.length _ rfl ((HO8.out.alloc _).alloc _) ⟨w8.heap.size + 1, 0, none⟩ 1 1 [.int .i64 n] rfl rfl ?news (by simp [Value.oneCell']) HN5.out.1 HN5.out.2.1 HN5.out.2.2 ?_; (case news => exact HNEW.out); intro v' w9 hown' hgrow _ hat; obtain ⟨g2, cap2, rfl⟩ := ownsRow_succ hown'; have hz9 := blk_grown (blk_alloc (blk_alloc HZ8.out _) _) hgrow HNE.out; have r2 := (blk_cell hz9 2).trans rfl; have r0 := blk_frozen hz9 2; have HZ9 := Aside0.mk hz9; have HOWN := Aside0.mk hown'; have HGROW := Aside0.mk hgrow; clear hown' hgrow hat hz9)
        rw [HEW.out]
        go_roundg k1
        case measure => omega
        case rel =>
          have hi := HI.out
          have ha1 := HAT.out
          have ha2 := HPS.out
          refine ⟨i + 1, at_ + ((p.size : Int) + 1), rfl, rfl, ⟨by omega⟩, ⟨by omega⟩, ⟨acc ++ [n], _, blk_put HZ9.out 2 _ rfl, ?_, by rw [List.length_append, HAL.out]; rfl, HGO2.out⟩, ⟨?_⟩⟩
          · rw [List.length_append, List.map_append]
            exact own_set HOWN.out ⟨w6.heap.size, 2, none⟩ (Nat.lt_succ_self _) _
          · exact ((((HB8.out.alloc (Nat.le_of_lt s8) _).alloc (by simp; omega) _).grown HGROW.out (by simp; omega) (fun k hk => by have := own_base HO8.out k hk; omega)).setCell (p := ⟨w6.heap.size, 2, none⟩) (Nat.le_refl _) _)
      · have hgo := HGO.out
        have e0 : (e == 0) = false := beq_eq_false_iff_ne.2 ce
        simp only [e0, Bool.false_and] at hgo
        rw [if_neg (by decide)] at hgo
        have hR := (Option.some.inj hgo).symm
        have hE := HE.out
        rw [hR] at hE
        unfold readEnd at hE
        simp only [Option.some.injEq, Prod.mk.injEq] at hE
        obtain ⟨rfl, rfl, rfl, rfl, rfl⟩ := hE
        have H08 := Aside0.mk (HB8.out.block _ s0 |>.trans H06.out)
        have H18 := Aside0.mk (HB8.out.block _ s1 |>.trans H16.out)
        have c00 := (blk_cell H08.out 0).trans rfl
        have c01 := (blk_cell H08.out 1).trans rfl
        have c02 := (blk_cell H08.out 2).trans rfl
        have c10 := (blk_cell H18.out 0).trans rfl
        have c11 := (blk_cell H18.out 1).trans rfl
        have f00 := blk_frozen H08.out 0
        have f01 := blk_frozen H08.out 1
        have f02 := blk_frozen H08.out 2
        have f10 := blk_frozen H18.out 0
        have f11 := blk_frozen H18.out 1
        have l8 : w.heap.size < w8.heap.size := blk_lt H08.out
        have l18 : b1 < w8.heap.size := blk_lt H18.out
        have a1 : 0 ≤ a := ge2
        have a2 : a ≤ 1000000 := ge3
        have CE := Aside0.mk ce
        have HXB := Aside0.mk (blk_new w8 (.cells #[.int .i64 e, .int .i64 a] 44))
        clear hgo ce ge1 ge2 ge3 hR
        have esum : IntKind.i64.wrap (at_ + a) = at_ + a := IntWalk.i64_in _ (by omega)
        have ESUM := Aside0.mk esum
        clear esum
        go_wp2_with fail
        have n8a : w8.heap.size ≠ w.heap.size := by omega
        have n8b : w8.heap.size ≠ b1 := by omega
        refine wp_onlyQ fun K hK => ?_
        refine wp_region_held_drew (S := (fun w' => w'.cell? ⟨w8.heap.size, 0, none⟩ = some (.int .i64 e) ∧ w'.cell? ⟨w8.heap.size, 1, none⟩ = some (.int .i64 a))) (by kernel_rfl) ?_ (fun hHeld => ?_)
        · exact ⟨(blk_cell HXB.out 0).trans rfl, (blk_cell HXB.out 1).trans rfl⟩
        refine wpAnyH_take (i := 0) (v := .agg #[.int .i64 0, .int .i64 0, .slice none 0 0]) rfl (by kernel_rfl) (by kernel_rfl) (by kernel_rfl) (fun _ _ _ h => h) (Or.inl ⟨by rfl, fun w' hSw => ?_⟩) (by assumption) ?_
        · go_simp
        simp only [Act.put, List.getElem_toArray, List.getElem_cons_zero, List.getElem_cons_succ, List.setIfInBounds_toArray, List.set_cons_zero, List.set_cons_succ]
        refine wpAnyH_take (i := 1) (v := .pointer (some ⟨w8.heap.size, 0, none⟩)) rfl (by kernel_rfl) (by kernel_rfl) (by kernel_rfl) (fun _ _ _ h => h) (Or.inl ⟨by rfl, fun w' hSw => ?_⟩) (by assumption) ?_
        · go_simp
        simp only [Act.put, List.getElem_toArray, List.getElem_cons_zero, List.getElem_cons_succ, List.setIfInBounds_toArray, List.set_cons_zero, List.set_cons_succ]
        refine wpAnyH_take (i := 2) (v := .int .i64 e) rfl (by kernel_rfl) (by kernel_rfl) (by kernel_rfl) (fun _ _ _ h => h) (Or.inl ⟨by rfl, fun w' hSw => ?_⟩) (by assumption) ?_
        · (obtain ⟨hs1, hs2⟩ := hSw; go_simp)
        simp only [Act.put, List.getElem_toArray, List.getElem_cons_zero, List.getElem_cons_succ, List.setIfInBounds_toArray, List.set_cons_zero, List.set_cons_succ]
        refine wpAnyH_take (i := 3) (v := .int .i64 at_) rfl (by kernel_rfl) (by kernel_rfl) (by kernel_rfl) (fun _ _ _ h => h) (Or.inl ⟨by rfl, fun w' hSw => ?_⟩) (by assumption) ?_
        · go_simp
        simp only [Act.put, List.getElem_toArray, List.getElem_cons_zero, List.getElem_cons_succ, List.setIfInBounds_toArray, List.set_cons_zero, List.set_cons_succ]
        refine wpAnyH_take (i := 4) (v := .pointer (some ⟨w8.heap.size, 1, none⟩)) rfl (by kernel_rfl) (by kernel_rfl) (by kernel_rfl) (fun _ _ _ h => h) (Or.inl ⟨by rfl, fun w' hSw => ?_⟩) (by assumption) ?_
        · go_simp
        simp only [Act.put, List.getElem_toArray, List.getElem_cons_zero, List.getElem_cons_succ, List.setIfInBounds_toArray, List.set_cons_zero, List.set_cons_succ]
        refine wpAnyH_take (i := 5) (v := .int .i64 a) rfl (by kernel_rfl) (by kernel_rfl) (by kernel_rfl) (fun _ _ _ h => h) (Or.inl ⟨by rfl, fun w' hSw => ?_⟩) (by assumption) ?_
        · (obtain ⟨hs1, hs2⟩ := hSw; go_simp)
        simp only [Act.put, List.getElem_toArray, List.getElem_cons_zero, List.getElem_cons_succ, List.setIfInBounds_toArray, List.set_cons_zero, List.set_cons_succ]
        refine wpAnyH_take (i := 6) (v := .int .i64 (at_ + a)) rfl (by kernel_rfl) (by kernel_rfl) (by kernel_rfl) (fun _ _ _ h => h) (Or.inl ⟨by rfl, fun w' hSw => ?_⟩) (by assumption) ?_
        · (have hx := ESUM.out; go_simp)
        simp only [Act.put, List.getElem_toArray, List.getElem_cons_zero, List.getElem_cons_succ, List.setIfInBounds_toArray, List.set_cons_zero, List.set_cons_succ]
        refine wpAnyH_take (i := 7) (v := .agg #[.int .i64 e, .int .i64 (at_ + a)]) rfl (by kernel_rfl) (by kernel_rfl) (by kernel_rfl) (fun _ _ _ h => h) (Or.inl ⟨by rfl, fun w' hSw => ?_⟩) (by assumption) ?_
        · go_simp
        simp only [Act.put, List.getElem_toArray, List.getElem_cons_zero, List.getElem_cons_succ, List.setIfInBounds_toArray, List.set_cons_zero, List.set_cons_succ]
        refine wpAnyH_ready (rs := [8]) (by kernel_rfl) (by simp) ?_
        refine AllReadyH.cons (o := _) rfl (fun K1 hK1 => ?_) AllReadyH.nil
        go_simp
        refine hK1.out _ _ ?_ (fun hHeld => ?_)
        · (first | exact ⟨(blk_cell (blk_drew (new_blk (by simp) _)) 0).trans rfl, (blk_cell (blk_drew (new_blk (by simp) _)) 1).trans rfl⟩ | exact ⟨(blk_cell (new_blk (by simp) _) 0).trans rfl, (blk_cell (new_blk (by simp) _) 1).trans rfl⟩)
        clear hK1 K1
        try simp only [Act.put, List.getElem_toArray, List.getElem_cons_zero, List.getElem_cons_succ, List.setIfInBounds_toArray, List.set_cons_zero, List.set_cons_succ]
        refine wpAnyH_ready (rs := [9]) (by kernel_rfl) (by simp) ?_
        refine AllReadyH.cons (o := _) rfl (fun K1 hK1 => ?_) AllReadyH.nil
        go_simp
        refine hK1.out _ _ ?_ (fun hHeld => ?_)
        · (first | exact ⟨(blk_cell (blk_drew (new_blk (by simp) _)) 0).trans rfl, (blk_cell (blk_drew (new_blk (by simp) _)) 1).trans rfl⟩ | exact ⟨(blk_cell (new_blk (by simp) _) 0).trans rfl, (blk_cell (new_blk (by simp) _) 1).trans rfl⟩)
        clear hK1 K1
        try simp only [Act.put, List.getElem_toArray, List.getElem_cons_zero, List.getElem_cons_succ, List.setIfInBounds_toArray, List.set_cons_zero, List.set_cons_succ]
        refine wpAnyH_done (by kernel_rfl) ?_ _
        show K _ _
        refine hK _ _ ?_
        clear hK K
        go_wp2
        obtain ⟨E0, E1, E2⟩ := ends H08.out H18.out (HBw.out.trans (HB8.out.mono HBw.out.size)) (Nat.le_refl _) HLE.out.1 (.int .i64 0) (.int .i64 0) (.slice none 0 0) (.int .i64 e) (.int .i64 (at_ + a))
        refine bodyPost_ret (results_cc rfl _ _ w.heap.size b1 36 44 _ _ (0, 0) (0, 0) _ _ rfl (blk_drew (blk_alloc E0 _)) Tryz.underlying36 rfl (by kernel_rfl) rfl (blk_drew (blk_alloc E1 _)) Tryz.underlying44 rfl (by kernel_rfl)) rfl ?_
        exact ⟨_, rfl, Kd.R_nil _ _ _ _ _, below_drew (below_alloc E2 _)⟩
    · have c1n : decide (i < ps.length) = false := decide_eq_false c1
      have c1b : decide ((i : Int) < (ps.length : Int)) = false := decide_eq_false (by omega)
      rw [List.drop_eq_nil_of_le (by omega)] at hgo
      have hR := (Option.some.inj hgo).symm
      have hE := HE.out
      rw [hR] at hE
      have HE2 := Aside0.mk hE
      have g0 := (blk_cell hz 0).trans rfl
      clear hgo hR hE hown hal c1 hz
      go_wp2_with fail
      refine (HSI.out _).mono ?_
      rintro er w8 ⟨rfl, hd⟩
      have hb8 := hd.below
      clear g0 hd
      have HZ8 := Aside0.mk (blk_below HZ.out hb8)
      have HO8 := Aside0.mk (own5_below_row HO.out hb8)
      have HB8 := Aside0.mk (HBr.out.trans (hb8.mono HBr.out.size))
      have s8 : w6.heap.size < w8.heap.size := blk_lt HZ8.out
      have g0 := (blk_cell HZ8.out 0).trans rfl
      have g1 := (blk_cell HZ8.out 1).trans rfl
      have g2 : w8.cell? ⟨w6.heap.size, 2, none⟩ = some v := (blk_cell HZ8.out 2).trans rfl
      have q1 := blk_frozen HZ8.out 1
      have q2 := blk_frozen HZ8.out 2
      have H08 := Aside0.mk (HB8.out.block _ s0 |>.trans H06.out)
      have H18 := Aside0.mk (HB8.out.block _ s1 |>.trans H16.out)
      have HW8 := Aside0.mk (HBw.out.trans (HB8.out.mono HBw.out.size))
      have l8 : w.heap.size < w8.heap.size := blk_lt H08.out
      have l18 : b1 < w8.heap.size := blk_lt H18.out
      have n6 : w6.heap.size ≠ w.heap.size := by omega
      have n61 : w6.heap.size ≠ b1 := by omega
      have c00 := (blk_cell H08.out 0).trans rfl
      have c01 := (blk_cell H08.out 1).trans rfl
      have c02 := (blk_cell H08.out 2).trans rfl
      have c10 := (blk_cell H18.out 0).trans rfl
      have c11 := (blk_cell H18.out 1).trans rfl
      have f00 := blk_frozen H08.out 0
      have f01 := blk_frozen H08.out 1
      have f02 := blk_frozen H08.out 2
      have f10 := blk_frozen H18.out 0
      have f11 := blk_frozen H18.out 1
      clear hb8 HI HAT HAL HBr l0 l1 s4
      cases sb with
      | true =>
        have hE := HE2.out
        unfold readEnd at hE
        simp only at hE
        rw [if_pos (of_decide_eq_true HSD.out.symm)] at hE
        by_cases ca : acc.length = 1
        · obtain ⟨n, rfl⟩ := List.length_eq_one_iff.1 ca
          obtain ⟨g9, cap9, rfl⟩ := ownsRow_succ HO8.out
          have gv : w8.cell? ⟨g9, 0, none⟩ = some (.int .i64 n) := (HO8.out.cellAt 0 (by simp)).trans rfl
          have hE' : readFin t n [] = some (r1, r2, r3, r4, r5) := hE
          unfold readFin at hE'
          obtain ⟨e0, hck, hE3⟩ := Option.bind_eq_some_iff.1 hE'
          have HCK := Aside0.mk (fun W => state_Check.calls t n none 0 [] e0 W (Kd.C_nil _ _) (Nat.le_refl _) hck)
          have HE3 := Aside0.mk hE3
          clear hE hE' hck hE3 ca
          go_wp2_with fail
          refine (HCK.out _).mono ?_
          rintro er w9 ⟨rfl, hb9⟩
          have HZ9 := Aside0.mk (blk_below (blk_put (blk_put HZ8.out 1 (.int .i64 n) rfl) 2 (.slice none 0 0) rfl) hb9)
          have H09 := Aside0.mk (blk_below (blk_far (blk_far H08.out (p := ⟨w6.heap.size, 1, none⟩) n6.symm _) (p := ⟨w6.heap.size, 2, none⟩) n6.symm _) hb9)
          have H19 := Aside0.mk (blk_below (blk_far (blk_far H18.out (p := ⟨w6.heap.size, 1, none⟩) n61.symm _) (p := ⟨w6.heap.size, 2, none⟩) n61.symm _) hb9)
          have HW9 := Aside0.mk (((HW8.out.setCell (p := ⟨w6.heap.size, 1, none⟩) (Nat.le_of_lt s0) _).setCell (p := ⟨w6.heap.size, 2, none⟩) (Nat.le_of_lt s0) _).trans (hb9.mono (by simp; omega)))
          clear c00 c01 c02 c10 c11 f00 f01 f02 f10 f11 g0 g1 g2 q1 q2 l8 l18 gv
          have c00 := (blk_cell H09.out 0).trans rfl
          have c01 := (blk_cell H09.out 1).trans rfl
          have c02 := (blk_cell H09.out 2).trans rfl
          have c10 := (blk_cell H19.out 0).trans rfl
          have c11 := (blk_cell H19.out 1).trans rfl
          have f00 := blk_frozen H09.out 0
          have f01 := blk_frozen H09.out 1
          have f02 := blk_frozen H09.out 2
          have f10 := blk_frozen H19.out 0
          have f11 := blk_frozen H19.out 1
          have g0 := (blk_cell HZ9.out 0).trans rfl
          have g1 := (blk_cell HZ9.out 1).trans rfl
          have g2 := (blk_cell HZ9.out 2).trans rfl
          have HB9 := Aside0.mk hb9
          clear hb9
          by_cases ce : e0 = 0
          · subst ce
            have hE := HE3.out
            rw [if_pos rfl] at hE
            simp only [Option.some.injEq, Prod.mk.injEq] at hE
            obtain ⟨rfl, rfl, rfl, rfl, rfl⟩ := hE
            go_wp2
            obtain ⟨E0, E1, E2⟩ := ends H09.out H19.out HW9.out (Nat.le_refl _) HLE.out.1 (.int .i64 t) (.int .i64 n) (.slice none 0 0) (.int .i64 0) (.int .i64 0)
            refine bodyPost_ret (results_cc rfl _ _ w.heap.size b1 36 44 _ _ (0, 0) (0, 0) _ _ rfl E0 Tryz.underlying36 rfl (by kernel_rfl) rfl E1 Tryz.underlying44 rfl (by kernel_rfl)) rfl ?_
            exact ⟨_, rfl, Kd.R_nil _ _ _ _ _, E2⟩
          · have hE := HE3.out
            rw [if_neg ce] at hE
            simp only [Option.some.injEq, Prod.mk.injEq] at hE
            obtain ⟨rfl, rfl, rfl, rfl, rfl⟩ := hE
            have e1 : (e0 != 0) = true := bne_iff_ne.2 ce
            have e2 : (e0 == 0) = false := beq_eq_false_iff_ne.2 ce
            clear ce
            go_wp2
            obtain ⟨E0, E1, E2⟩ := ends H09.out H19.out HW9.out (Nat.le_refl _) HLE.out.1 (.int .i64 0) (.int .i64 0) (.slice none 0 0) (.int .i64 5) (.int .i64 0)
            refine bodyPost_ret (results_cc rfl _ _ w.heap.size b1 36 44 _ _ (0, 0) (0, 0) _ _ rfl E0 Tryz.underlying36 rfl (by kernel_rfl) rfl E1 Tryz.underlying44 rfl (by kernel_rfl)) rfl ?_
            exact ⟨_, rfl, Kd.R_nil _ _ _ _ _, E2⟩
        · rw [readEnd_bad (of_decide_eq_true HSD.out.symm) ca] at HE2
          have hE := HE2.out
          simp only [Option.some.injEq, Prod.mk.injEq] at hE
          obtain ⟨rfl, rfl, rfl, rfl, rfl⟩ := hE
          obtain ⟨A, c, rfl⟩ := own_slice HO8.out
          have e1 : ((acc.length : Int) != 1) = true := bne_iff_ne.2 (by omega)
          have e2 : ((acc.length : Int) == 1) = false := beq_eq_false_iff_ne.2 (by omega)
          clear ca
          go_wp2
          obtain ⟨E0, E1, E2⟩ := ends H08.out H18.out HW8.out (Nat.le_refl _) HLE.out.1 (.int .i64 0) (.int .i64 0) (.slice none 0 0) (.int .i64 5) (.int .i64 0)
          refine bodyPost_ret (results_cc rfl _ _ w.heap.size b1 36 44 _ _ (0, 0) (0, 0) _ _ rfl E0 Tryz.underlying36 rfl (by kernel_rfl) rfl E1 Tryz.underlying44 rfl (by kernel_rfl)) rfl ?_
          exact ⟨_, rfl, Kd.R_nil _ _ _ _ _, E2⟩
      | false =>
        have hE := HE2.out
        unfold readEnd at hE
        simp only at hE
        rw [if_neg (of_decide_eq_false HSD.out.symm)] at hE
        obtain ⟨A, c, rfl⟩ := own_slice HO8.out
        obtain ⟨_, hcl, hCr⟩ := Kd.R_reads' (Kd.R_of_own (enc := Value.int .i64) (h1 := fun _ => rfl) HO8.out (fun _ _ => trivial) : (Kd.int .i64).R 3 w8 (w6.heap.size + 1) (fun _ => True) (.slice A acc.length c) acc)
        unfold readFin at hE
        obtain ⟨e0, hck, hE3⟩ := Option.bind_eq_some_iff.1 hE
        have HCK := Aside0.mk (state_Check.calls t 0 A c acc e0 w8 hCr hcl hck)
        have HE3 := Aside0.mk hE3
        clear hE hck hE3 hcl hCr
        go_wp2_with fail
        refine HCK.out.mono ?_
        rintro er w9 ⟨rfl, hb9⟩
        have HZ9 := Aside0.mk (blk_below (HZ8.out) hb9)
        have H09 := Aside0.mk (blk_below (H08.out) hb9)
        have H19 := Aside0.mk (blk_below (H18.out) hb9)
        have HW9 := Aside0.mk ((HW8.out).trans (hb9.mono (by omega)))
        clear c00 c01 c02 c10 c11 f00 f01 f02 f10 f11 g0 g1 g2 q1 q2 l8 l18
        have c00 := (blk_cell H09.out 0).trans rfl
        have c01 := (blk_cell H09.out 1).trans rfl
        have c02 := (blk_cell H09.out 2).trans rfl
        have c10 := (blk_cell H19.out 0).trans rfl
        have c11 := (blk_cell H19.out 1).trans rfl
        have f00 := blk_frozen H09.out 0
        have f01 := blk_frozen H09.out 1
        have f02 := blk_frozen H09.out 2
        have f10 := blk_frozen H19.out 0
        have f11 := blk_frozen H19.out 1
        have g0 := (blk_cell HZ9.out 0).trans rfl
        have g1 := (blk_cell HZ9.out 1).trans rfl
        have g2 := (blk_cell HZ9.out 2).trans rfl
        have HB9 := Aside0.mk hb9
        clear hb9
        by_cases ce : e0 = 0
        · subst ce
          have hE := HE3.out
          rw [if_pos rfl] at hE
          simp only [Option.some.injEq, Prod.mk.injEq] at hE
          obtain ⟨rfl, rfl, rfl, rfl, rfl⟩ := hE
          go_wp2
          obtain ⟨E0, E1, E2⟩ := ends H09.out H19.out HW9.out (Nat.le_refl _) HLE.out.1 (.int .i64 t) (.int .i64 0) (.slice A acc.length c) (.int .i64 0) (.int .i64 0)
          refine bodyPost_ret (results_cc rfl _ _ w.heap.size b1 36 44 _ _ (0, 0) (0, 0) _ _ rfl E0 Tryz.underlying36 rfl (by kernel_rfl) rfl E1 Tryz.underlying44 rfl (by kernel_rfl)) rfl ?_
          exact ⟨_, rfl, Kd.R_of_own (own_lower (own_set (own_set (own_set (own_set (own_set (own5_below_row HO8.out HB9.out) _ (Nat.lt_succ_of_lt s0) _) _ (Nat.lt_succ_of_lt s0) _) _ (Nat.lt_succ_of_lt s0) _) _ (Nat.lt_succ_of_lt s1) _) _ (Nat.lt_succ_of_lt s1) _) (Nat.le_of_lt (Nat.lt_succ_of_lt s0))) (fun _ _ => trivial), E2⟩
        · have hE := HE3.out
          rw [if_neg ce] at hE
          simp only [Option.some.injEq, Prod.mk.injEq] at hE
          obtain ⟨rfl, rfl, rfl, rfl, rfl⟩ := hE
          have e1 : (e0 != 0) = true := bne_iff_ne.2 ce
          have e2 : (e0 == 0) = false := beq_eq_false_iff_ne.2 ce
          clear ce
          go_wp2
          obtain ⟨E0, E1, E2⟩ := ends H09.out H19.out HW9.out (Nat.le_refl _) HLE.out.1 (.int .i64 0) (.int .i64 0) (.slice none 0 0) (.int .i64 5) (.int .i64 0)
          refine bodyPost_ret (results_cc rfl _ _ w.heap.size b1 36 44 _ _ (0, 0) (0, 0) _ _ rfl E0 Tryz.underlying36 rfl (by kernel_rfl) rfl E1 Tryz.underlying44 rfl (by kernel_rfl)) rfl ?_
          exact ⟨_, rfl, Kd.R_nil _ _ _ _ _, E2⟩
theorem state_Read.calls (a0 : ByteArray) (r1 : Int) (r2 : Int) (r3 : List Int) (r4 : Int) (r5 : Int) (w : World) (hG : GOk w) (h : state_Read.f a0 = some (r1, r2, r3, r4, r5)) :
    Calls Tryz.prog 121 #[.string a0] w fun e w' => ∃ v2_ : Value, e = .returned (.tuple #[.agg #[.int .i64 r1, .int .i64 r2, v2_], .agg #[.int .i64 r4, .int .i64 r5]]) ∧ Kd.R (Kd.int .i64) 3 w' w.heap.size (fun _ => True) v2_ r3 ∧ Below w.heap.size w w' := by
  unfold state_Read.f at h
  by_cases ha : a0.size ≤ 1000000
  · rw [if_pos ha] at h
    cases hs : spl a0 with
    | nil => rw [hs] at h; cases h
    | cons p0 ps =>
      rw [hs] at h
      exact read_walk a0 ha p0 ps hs _ rfl r1 r2 r3 r4 r5 w hG h
  · rw [if_neg ha] at h
    cases h
end Go.Proofs.YtkjnbfjbdlcehaaGreatDoor.P
