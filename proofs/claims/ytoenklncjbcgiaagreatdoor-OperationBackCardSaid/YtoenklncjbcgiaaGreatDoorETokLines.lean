/- token.Lines: a text's lines. -/
import Derived.Test.YtoenklncjbcgiaaGreatDoorETokSpl
import Derived.Test.YtoenklncjbcgiaaGreatDoorPx2
import Derived.WalkMore
import Derived.IntWalk
import Derived.Deep.QuietTactic
import Derived.BigQuiet
namespace Go.Proofs.YtoenklncjbcgiaaGreatDoor.P
open Go.RowKit Go.Proofs.YtoenklncjbcgiaaGreatDoorW.PrintWords Go.Proofs.YtoenklncjbcgiaaGreatDoorW.PrintLast Go.Proofs.YtoenklncjbcgiaaGreatDoorW.PrintMore
set_option linter.unusedVariables false
set_option linter.unusedSimpArgs false
attribute [local go_sem] Oper.semAt_some

def isBad (x : Nat × List Int) : Bool := match verdict x with | .bad _ _ => true | _ => false
def outL (xs : List (Nat × List Int)) : List S58 := xs.filterMap fun x => match verdict x with | .line s => some s | _ => none
theorem outL_snoc (xs : List (Nat × List Int)) (x : Nat × List Int) : outL (xs ++ [x]) = outL xs ++ (match verdict x with | .line s => [s] | _ => []) := by
  unfold outL
  rw [List.filterMap_append]
  congr 1
  simp only [List.filterMap_cons, List.filterMap_nil]
  cases verdict x <;> rfl
theorem outL_length (xs : List (Nat × List Int)) : (outL xs).length ≤ xs.length := List.length_filterMap_le _ _
theorem linesOf_good : ∀ xs : List (Nat × List Int), (∀ x ∈ xs, isBad x = false) → linesOf xs = (outL xs, 0, 0)
  | [], _ => rfl
  | x :: xs, h => by
    have ih := linesOf_good xs (fun y hy => h y (List.mem_cons_of_mem _ hy))
    have hx := h x List.mem_cons_self
    unfold isBad at hx
    show (match verdict x with | .skip => linesOf xs | .bad e p => ([], e, p) | .line s => if (linesOf xs).2.1 = 0 then (s :: (linesOf xs).1, (linesOf xs).2) else ([], (linesOf xs).2)) = _
    have ho : outL (x :: xs) = (match verdict x with | .line s => [s] | _ => []) ++ outL xs := by
      unfold outL
      rw [List.filterMap_cons]
      cases verdict x <;> rfl
    rw [ho]
    cases hv : verdict x with
    | skip => simpa using ih
    | bad e p => rw [hv] at hx; cases hx
    | line s =>
      simp only [ih]
      simp
theorem linesOf_bad : ∀ (pre : List (Nat × List Int)) (x : Nat × List Int) (e p : Int) (rest : List (Nat × List Int)), (∀ y ∈ pre, isBad y = false) → verdict x = .bad e p → e ≠ 0 → linesOf (pre ++ x :: rest) = ([], e, p)
  | [], x, e, p, rest, _, hv, _ => by
    show (match verdict x with | .skip => linesOf rest | .bad e p => ([], e, p) | .line s => if (linesOf rest).2.1 = 0 then (s :: (linesOf rest).1, (linesOf rest).2) else ([], (linesOf rest).2)) = _
    rw [hv]
  | y :: pre, x, e, p, rest, h, hv, he => by
    have ih := linesOf_bad pre x e p rest (fun z hz => h z (List.mem_cons_of_mem _ hz)) hv he
    have hy := h y List.mem_cons_self
    unfold isBad at hy
    show (match verdict y with | .skip => linesOf (pre ++ x :: rest) | .bad e p => ([], e, p) | .line s => if (linesOf (pre ++ x :: rest)).2.1 = 0 then (s :: (linesOf (pre ++ x :: rest)).1, (linesOf (pre ++ x :: rest)).2) else ([], (linesOf (pre ++ x :: rest)).2)) = _
    cases hvy : verdict y with
    | skip => exact ih
    | bad e' p' => rw [hvy] at hy; cases hy
    | line s =>
      simp only [ih]
      rw [if_neg he]
/-- What cutF tells are the text's lines, where they stand. -/
theorem cutF_mem (bs : List Int) : ∀ (f p : Nat), ∀ x ∈ cutF f p (bs.drop p), x.2 = lineOf (bs.drop x.1) ∧ x.1 < bs.length
  | 0, _, x, hx => by cases hx
  | f + 1, p, x, hx => by
    by_cases c : bs.drop p = []
    · rw [c, cutF_nil] at hx
      cases hx
    · rw [cutF_cons f p _ c, List.drop_drop] at hx
      rcases List.mem_cons.1 hx with rfl | hx
      · refine ⟨rfl, ?_⟩
        rcases Nat.lt_or_ge p bs.length with h | h
        · exact h
        · exact absurd (List.drop_eq_nil_of_le h) c
      · exact cutF_mem bs f (p + ((lineOf (bs.drop p)).length + 1)) x (by rw [Nat.add_assoc] at hx; exact hx)
theorem cutF_length (bs : List Int) : ∀ (f p : Nat), (cutF f p (bs.drop p)).length ≤ bs.length - p
  | 0, p => Nat.zero_le _
  | f + 1, p => by
    by_cases c : bs.drop p = []
    · rw [c, cutF_nil]
      exact Nat.zero_le _
    · have hp : p < bs.length := by
        rcases Nat.lt_or_ge p bs.length with h | h
        · exact h
        · exact absurd (List.drop_eq_nil_of_le h) c
      rw [cutF_cons f p _ c, List.drop_drop, List.length_cons]
      have := cutF_length bs f (p + ((lineOf (bs.drop p)).length + 1))
      rw [Nat.add_assoc]
      omega
/-- A fault's box. -/
def FBox (n1 : Nat) (e p : Int) (W : World) : Prop := W.heap[n1]? = some (.cells #[.int .i64 e, .int .i64 p] 52 (0, 0))
/-- What stands in the boxes between two rounds. -/
def LinI (w : World) (pre : List (Nat × List Int)) (W : World) : Prop :=
  ((∃ v, Boxed W w.heap.size 50 v ∧ Kd.S k58 58 W w.heap.size (fun k => k ≠ w.heap.size + 1 + 1) v (outL pre)) ∧ FBox (w.heap.size + 1) 0 0 W ∧ (∀ x ∈ pre, isBad x = false)) ∧ Below w.heap.size w W
/-- .. and where a round has left. -/
def LinX (w : World) (c : Code) (pre : List (Nat × List Int)) (W : World) : Prop :=
  ∃ q x e p, c = .exit 0 ∧ pre = q ++ [x] ∧ (∀ y ∈ q, isBad y = false) ∧ verdict x = .bad e p ∧ (e ≠ 0 ∧ (∃ v, Boxed W w.heap.size 50 v) ∧ FBox (w.heap.size + 1) e p W) ∧ Below w.heap.size w W
theorem linI_own (w : World) (B : Nat) (hB : w.heap.size ≤ B) : OwnFrom B (LinI w) := by
  rintro s X Y row ⟨⟨⟨v, hv, hS⟩, hf, hb⟩, hB1⟩ hg hr
  have hr' := fun r e => (hr r e).2
  exact ⟨⟨⟨v, blk_other hv rfl hg hr', S_other hS hg hr'⟩, blk_other hf rfl hg hr', hb⟩, (ownFrom_below (β := Unit) (Nat.le_refl _) hB) () X Y row hB1 hg hr⟩
theorem linX_own (w : World) (B : Nat) (hB : w.heap.size ≤ B) (c : Code) : OwnFrom B (LinX w c) := by
  rintro s X Y row ⟨q, x, e, p, hc, hs, hq, hx, ⟨he, ⟨v, hv⟩, hf⟩, hB1⟩ hg hr
  have hr' := fun r e => (hr r e).2
  exact ⟨q, x, e, p, hc, hs, hq, hx, ⟨he, ⟨v, blk_other hv rfl hg hr'⟩, blk_other hf rfl hg hr'⟩, (ownFrom_below (β := Unit) (Nat.le_refl _) hB) () X Y row hB1 hg hr⟩
theorem linI_below (w : World) (s : List (Nat × List Int)) (A B : World) (h : LinI w s A) (hb : Below A.heap.size A B) : LinI w s B := by
  obtain ⟨⟨⟨v, hv, hS⟩, hf, hbad⟩, hB1⟩ := h
  exact ⟨⟨⟨v, blk_below hv hb, Kd.S_below hS hb⟩, blk_below hf hb, hbad⟩, hB1.trans (hb.mono hB1.size)⟩
theorem linX_below (w : World) (c : Code) (s : List (Nat × List Int)) (A B : World) (h : LinX w c s A) (hb : Below A.heap.size A B) : LinX w c s B := by
  obtain ⟨q, x, e, p, hc, hs, hq, hx, ⟨he, ⟨v, hv⟩, hf⟩, hB1⟩ := h
  exact ⟨q, x, e, p, hc, hs, hq, hx, ⟨he, ⟨v, blk_below hv hb⟩, blk_below hf hb⟩, hB1.trans (hb.mono hB1.size)⟩
/-- Where the next word begins. -/
def endAt : Int → List ByteArray → Int
  | p, [] => p
  | p, w :: ws => endAt (p + (w.size : Int) + 1) ws
theorem endAt_snoc (x : ByteArray) : ∀ (ws : List ByteArray) (p : Int), endAt p (ws ++ [x]) = endAt p ws + (x.size : Int) + 1
  | [], p => rfl
  | w :: ws, p => endAt_snoc x ws (p + (w.size : Int) + 1)
theorem wordsAt_snoc (x : ByteArray) : ∀ (ws : List ByteArray) (p : Int), wordsAt p (ws ++ [x]) = wordsAt p ws ++ [⟨x, endAt p ws⟩]
  | [], p => rfl
  | w :: ws, p => by
    show (⟨w, p⟩ : S60) :: wordsAt _ (ws ++ [x]) = _
    rw [wordsAt_snoc x ws (p + (w.size : Int) + 1)]
    rfl
theorem wordsAt_length : ∀ (ws : List ByteArray) (p : Int), (wordsAt p ws).length = ws.length
  | [], _ => rfl
  | w :: ws, p => by
    show (wordsAt _ ws).length + 1 = ws.length + 1
    rw [wordsAt_length ws _]
def sumB (ws : List ByteArray) : Nat := (ws.map (·.size + 1)).sum
theorem endAt_sum : ∀ (ws : List ByteArray) (p : Int), endAt p ws = p + (sumB ws : Int)
  | [], p => by simp [endAt, sumB]
  | w :: ws, p => by
    show endAt (p + (w.size : Int) + 1) ws = _
    rw [endAt_sum ws]
    simp only [sumB, List.map_cons, List.sum_cons]
    omega
theorem pieces_sum (sep : UInt8) : ∀ l : List UInt8, ((pieces sep l).map (·.length + 1)).sum = l.length + 1
  | [] => rfl
  | c :: l => by
    have ih := pieces_sum sep l
    rw [pieces_cons]
    split
    · simp only [List.map_cons, List.sum_cons, ih, List.length_nil, List.length_cons]
      omega
    · split
      · rename_i h
        exact absurd h (pieces_ne sep l)
      · rename_i q qs h
        rw [h] at ih
        simp only [List.map_cons, List.sum_cons, List.length_cons] at ih ⊢
        omega
theorem piecesB_sum (s : ByteArray) : sumB (piecesB s) = s.size + 1 := by
  have h := pieces_sum 32 s.data.toList
  unfold sumB piecesB
  rw [List.map_map]
  have e : ((fun x : ByteArray => x.size + 1) ∘ fun l : List UInt8 => (⟨l.toArray⟩ : ByteArray)) = fun l : List UInt8 => l.length + 1 := by
    funext l
    show l.toArray.size + 1 = l.length + 1
    simp
  rw [e, h]
  rfl
theorem sumB_prefix {a b : List ByteArray} (h : a <+: b) : sumB a ≤ sumB b := by
  obtain ⟨c, rfl⟩ := h
  unfold sumB
  rw [List.map_append, List.sum_append]
  omega
theorem sumB_length : ∀ ws : List ByteArray, ws.length ≤ sumB ws
  | [] => Nat.zero_le _
  | w :: ws => by
    have := sumB_length ws
    simp only [sumB, List.map_cons, List.sum_cons, List.length_cons] at this ⊢
    omega
/-- What stands in the boxes of a line under way: Wb's heap ends where the line's boxes begin; M: where the splitter's boxes begin. -/
def WorI (Wb : World) (M : Nat) (p : Int) (pre : List ByteArray) (W : World) : Prop :=
  (∃ v, W.heap[Wb.heap.size]? = some (.cells #[.int .i64 p, v] 58 (0, 0)) ∧ k60.R 60 W Wb.heap.size (fun k => k ≠ M ∧ k ≠ M + 1 ∧ k ≠ M + 1 + 1) v (wordsAt p pre) ∧ Boxed W (Wb.heap.size + 1) 3 (.int .i64 (endAt p pre)) ∧ M + 1 + 1 < W.heap.size) ∧ Below Wb.heap.size Wb W
theorem worI_own (Wb : World) (M : Nat) (p : Int) (B : Nat) (hB : Wb.heap.size ≤ B) : OwnFrom B (WorI Wb M p) := by
  rintro s X Y row ⟨⟨v, hv, hR, hp, hm⟩, hB1⟩ hg hr
  have hr' := fun r e => (hr r e).2
  exact ⟨⟨v, blk_other hv rfl hg hr', R_other hR hg hr', blk_other hp rfl hg hr', Nat.lt_of_lt_of_le hm hg.size⟩, (ownFrom_below (β := Unit) (Nat.le_refl _) hB) () X Y row hB1 hg hr⟩
theorem worI_set (Wb : World) (M : Nat) (p : Int) (hM : Wb.heap.size + 1 < M) (s : List ByteArray) (A B : World) (h : WorI Wb M p s A) (hb : ∃ v, B = A.setCell ⟨M, 0, none⟩ v) : WorI Wb M p s B := by
  obtain ⟨u, rfl⟩ := hb
  obtain ⟨⟨v, hv, hR, hp, hm⟩, hB1⟩ := h
  exact ⟨⟨v, blk_far hv (by simp; omega) _, Kd.R_far (p := ⟨M, 0, none⟩) hR (fun k hk => hk.1) _, blk_far hp (by simp; omega) _, by simpa using hm⟩, hB1.setCell (by simp; omega) _⟩
theorem boxes3_trans {B1 B2 B3 : Nat} {A B C : World} (h : Boxes3 B1 B2 B3 A B) (k : Boxes3 B1 B2 B3 B C) : Boxes3 B1 B2 B3 A C := ⟨k.1.trans h.1, k.2.1.trans h.2.1, k.2.2.trans h.2.2⟩
theorem lines_results (tmps : Array Value) (w : World) (g g' : Nat) (v : Value) (a b : Int) (hv : v.oneCell' = true) (hp : tmps[2]?.getD undef = .pointer (some ⟨g, 0, none⟩)) (hp' : tmps[3]?.getD undef = .pointer (some ⟨g', 0, none⟩)) (hg : Boxed w g 50 v) (hg' : FBox g' a b w) :
    (results Tryz.f18 tmps).run Tryz.prog w = .ok (.tuple #[v, .agg #[.int .i64 a, .int .i64 b]]) w := by
  have c0 := hg.cell
  have c1 := (blk_cell hg' 0).trans rfl
  have c2 := (blk_cell hg' 1).trans rfl
  have hu := Tryz.underlying50
  simp [results, Tryz.results18, go_sem, hp, hp', c0, c1, c2, hu, asAddr]
theorem infoL : (Tryz.prog.info? 58).map (fun i => (i.zero, i.size, i.bytes)) = some (some (.agg #[(.int .i64 0), (.slice none 0 0)]), 2, 32) := by kernel_rfl
theorem infoW : (Tryz.prog.info? 60).map (fun i => (i.zero, i.size, i.bytes)) = some (some (.agg #[(.string ⟨#[]⟩), (.int .i64 0)]), 2, 24) := by kernel_rfl
set_option maxRecDepth 100000 in
set_option maxHeartbeats 1000000 in
theorem lines_in (A0 : Option Addr) (c0 : Nat) (bs : List Int) (g o : Nat) (w : World) (hu : isU8 bs = true) (hlen : bs.length ≤ 67108864) (hc0 : bs.length ≤ c0)
    (hseq : ∀ W2 : World, Below w.heap.size w W2 → w.heap.size + 1 + 1 < W2.heap.size → W2.cell? ⟨w.heap.size + 1 + 1, 0, none⟩ = some (.slice A0 bs.length c0) →
      SeqT Tryz.prog 41 #[.pointer (some ⟨w.heap.size + 1 + 1, 0, none⟩)] (lineV g o c0) (Two (w.heap.size + 1 + 1) g) (fun A B => Below A.heap.size A B) (fun pre x => (pre ++ [x]) <+: cutF (bs.length + 1) 0 bs) (fun xs => xs = cutF (bs.length + 1) 0 bs) (fun pre => pre <+: cutF (bs.length + 1) 0 bs) W2)
    (hg2 : g < w.heap.size + 1 + 1 + 1) (hg : bs.length ≠ 0 → g < w.heap.size) (hcs : ∀ i, i < bs.length → w.cell? ⟨g, o + i, none⟩ = some (.int .u8 (bs.getD i 0))) :
    CallsIn Fence.wide 0 Tryz.prog 18 #[.slice A0 bs.length c0] w fun e w' => ∃ v0_ : Value, e = .returned (.tuple #[v0_, .agg #[.int .i64 (linesOf (cutF (bs.length + 1) 0 bs)).2.1, .int .i64 (linesOf (cutF (bs.length + 1) 0 bs)).2.2]]) ∧ Kd.S k58 58 w' w.heap.size (fun _ => True) v0_ (linesOf (cutF (bs.length + 1) 0 bs)).1 ∧ Below w.heap.size w w' := by
  have HU := Aside0.mk hu
  have HSEQ := Aside0.mk hseq
  have HG := Aside0.mk hg
  have HCS := Aside0.mk hcs
  clear hu hseq hg hcs
  have z1 : decide (67108864 < (bs.length : Int)) = false := decide_eq_false (by omega)
  have z2 : ¬ ((67108864 : Int) < (bs.length : Int)) := by omega
  refine callsIn_of_wp_marks Tryz.func18 rfl trivial ?_ rfl
  simp only [Tryz.ntmps18, List.size_toArray, List.length_cons, List.length_nil, Nat.reduceAdd, Nat.reduceSub, Array.replicate_succ, Array.replicate_zero, List.push_toArray, List.append_toArray, List.nil_append, List.cons_append]
  refine wpIn_wide.2 ?_
  go_wp2_with fail
  go_step3
  go_wp2_with fail
  go_step3
  have hbox : ∃ W0, Aside0 (W0 = (w.alloc (.cells #[.slice none 0 0] 50)).alloc (.cells #[.int .i64 0, .int .i64 0] 52)) := ⟨_, ⟨rfl⟩⟩
  obtain ⟨W0, hW0⟩ := hbox
  have hs0 : W0.heap.size = w.heap.size + 1 + 1 := by rw [hW0.out]; simp
  have bO : Boxed W0 w.heap.size 50 (.slice none 0 0) := by rw [hW0.out]; exact (Boxed.new w _ _).alloc _
  have bF : FBox (w.heap.size + 1) 0 0 W0 := by
    rw [hW0.out]
    have := blk_new (w.alloc (.cells #[.slice none 0 0] 50)) (.cells #[.int .i64 0, .int .i64 0] 52)
    rw [World.size_alloc] at this
    exact this
  have hB0 : Below w.heap.size w W0 := by rw [hW0.out]; exact ((Below.refl _ w).alloc (Nat.le_refl _) _).alloc (by simp) _
  have BO := Aside0.mk bO
  have BF := Aside0.mk bF
  have HB0 := Aside0.mk hB0
  rw [← hW0.out]
  clear bO bF hB0 hW0
  go_wp2_with fail
  refine (callsIn_wide.1 (cut_in A0 bs.length c0 W0)).mono ?_
  rintro e W2 ⟨rfl, hW2⟩
  have hs2 : W2.heap.size = w.heap.size + 1 + 1 + 1 := by rw [hW2]; simp [hs0]
  have hBb : Boxed W2 (w.heap.size + 1 + 1) 55 (.slice A0 bs.length c0) := by rw [hW2, ← hs0]; exact Boxed.new W0 _ _
  have BO2 := Aside0.mk (show Boxed W2 w.heap.size 50 (.slice none 0 0) by rw [hW2]; exact BO.out.alloc _)
  have BF2 := Aside0.mk (show FBox (w.heap.size + 1) 0 0 W2 by rw [hW2]; exact blk_below BF.out ((Below.refl _ _).alloc (Nat.le_refl _) _))
  have HB2 := Aside0.mk (show Below w.heap.size w W2 by rw [hW2]; exact HB0.out.alloc HB0.out.size _)
  have HBb := Aside0.mk hBb
  have HS2 := Aside0.mk hs2
  rw [hs0]
  clear hs0 hs2 hBb hW2 BO BF HB0
  go_wp2_with fail
  refine (wpIn_wide (n := 0)).1 (range_lawH rfl (enters_of Tryz.func41 (by kernel_rfl) rfl) (HSEQ.out W2 HB2.out (by rw [HS2.out]; omega) HBb.out.cell) (Below.refl _ _)
      (fun h k => h.trans k) (fun W l o o' hl ho _ _ => ⟨World.putObj_heap_other (by rw [HS2.out] at hl; omega), World.putObj_heap_other (by rw [HS2.out] at hl; omega)⟩)
      (fun A B h k o hk ho => (h.block k (Array.getElem?_eq_some_iff.1 ho).1).trans ho) (fun x => by unfold lineV; rfl)
      (LinI w) (LinX w) (linI_own w _ (by rw [HS2.out]; omega)) (linX_own w _ (by rw [HS2.out]; omega)) (linI_below w) (linX_below w)
      ⟨⟨⟨_, BO2.out, Kd.S_nil _ _ _ _ _⟩, BF2.out, fun _ h => by cases h⟩, HB2.out⟩ ?_ ?_ ?_ ?_ ?_)
  rotate_left 1
  · intro l x W K hK
    unfold lineV
    gi_wp2
    exact hK
  · rintro l pre ⟨p, L⟩ W hlW ⟨rL, hrL⟩ ⟨⟨⟨v, hv, hS⟩, hf, hbad⟩, hB⟩ hR
    have hpre : ∀ y ∈ pre ++ [(p, L)], y ∈ cutF (bs.length + 1) 0 (bs.drop 0) := fun y hy => by rw [List.drop_zero]; exact hR.subset hy
    obtain ⟨hL, hp⟩ := cutF_mem bs (bs.length + 1) 0 (p, L) (hpre _ (by simp))
    dsimp only at hL hp
    have hLl : L.length ≤ bs.length - p := by
      have := lineOf_le (bs.drop p)
      rw [← hL, List.length_drop] at this
      exact this
    have HL := Aside0.mk hL
    have HR := Aside0.mk hR
    have HP := Aside0.mk hpre
    have HV := Aside0.mk hv
    have HSS := Aside0.mk hS
    have HF := Aside0.mk hf
    have HBAD := Aside0.mk hbad
    have HB := Aside0.mk hB
    have HRL := Aside0.mk hrL
    have HLW := Aside0.mk hlW
    have hlenW : W2.heap.size ≤ l := HLW.out
    have hlenL : l < W.heap.size := blk_lt HRL.out
    have hW2s : W2.heap.size = w.heap.size + 1 + 1 + 1 := HS2.out
    clear hL hR hpre hv hS hf hbad hB hrL hlW
    have hl63 : L.length < 4611686018427387904 := by omega
    have m0 := blk_cell HF.out 0
    have m1 := blk_cell HF.out 1
    have k0 := blk_frozen HF.out 0
    have k1 := blk_frozen HF.out 1
    replace m0 := m0.trans rfl
    replace m1 := m1.trans rfl
    by_cases cA : 65536 < L.length
    · have d1 : decide (65536 < (L.length : Int)) = true := decide_eq_true (by omega)
      have hver : verdict (p, L) = .bad 4 p := by unfold verdict; rw [if_pos cA]
      have HVER := Aside0.mk hver
      clear cA hver
      gi_wp2
      refine ⟨((KeepsOthers.setCell _ _ _).trans (KeepsOthers.setCell _ _ _)).from _, pre, (p, L), 4, p, rfl, rfl, HBAD.out, HVER.out, ⟨by decide, ⟨v, ?_⟩, ?_⟩, ?_⟩
      · exact blk_far (blk_far HV.out (by simp) _) (by simp) _
      · exact blk_put (blk_put HF.out 0 (.int .i64 4) rfl) 1 (.int .i64 p) rfl
      · exact (HB.out.setCell (p := ⟨w.heap.size + 1, 0, none⟩) (by simp) _).setCell (p := ⟨w.heap.size + 1, 1, none⟩) (by simp) _
    · have d1 : decide (65536 < (L.length : Int)) = false := decide_eq_false (by omega)
      by_cases cE : L = []
      · subst cE
        have hver : verdict (p, []) = .skip := by unfold verdict; rw [if_neg cA, if_pos (by simp)]
        have HVER := Aside0.mk hver
        clear cA hver
        gi_wp2
        refine ⟨KeepsFrom.refl _ _, ⟨rfl, rfl⟩, ⟨⟨v, HV.out, ?_⟩, HF.out, ?_⟩, HB.out⟩
        · rw [outL_snoc, HVER.out, List.append_nil]
          exact HSS.out
        · intro y hy
          rcases List.mem_append.1 hy with hy | hy
          · exact HBAD.out y hy
          · rw [List.mem_singleton.1 hy]
            unfold isBad
            rw [HVER.out]
      · have hL0 : 0 < L.length := List.length_pos_iff.2 cE
        have hgw : g < w.heap.size := HG.out (by omega)
        have hcell : ∀ j, j < L.length → W.cell? ⟨g, o + p + j, none⟩ = some (.int .u8 (L.getD j 0)) := by
          intro j hj
          have h1 := (HB.out.cell (p := ⟨g, o + (p + j), none⟩) hgw).trans (HCS.out (p + j) (by omega))
          rw [show o + p + j = o + (p + j) by omega, h1]
          have h2 := lineOf_take (bs.drop p)
          rw [← HL.out] at h2
          have h3 : L.getD j 0 = bs.getD (p + j) 0 := by
            rw [List.getD_eq_getElem?_getD, List.getD_eq_getElem?_getD]
            have h4 : L[j]? = (bs.drop p)[j]? := by
              rw [h2, List.getElem?_take_of_lt hj]
            rw [h4, List.getElem?_drop]
          rw [h3]
        have hC : Kd.C (Kd.int .u8) W (some ⟨g, o + p, none⟩) L.length L := Kd.C_of_reads (enc := Value.int .u8) (d := (0 : Int)) ⟨rfl, by omega, fun _ => ⟨_, rfl, fun j hj => by
          have e' : (⟨g, o + p, none⟩ : Addr).add j = ⟨g, o + p + j, none⟩ := by
            unfold Addr.add
            split <;> simp_all
          rw [e']
          exact hcell j hj⟩⟩
        have hH := hcell 0 hL0
        rw [Nat.add_zero] at hH
        obtain ⟨H, hHe⟩ : ∃ H, Aside0 (L.getD 0 0 = H) := ⟨_, ⟨rfl⟩⟩
        rw [hHe.out] at hH
        have hhd : L.headD 0 = H := by
          rw [← hHe.out]
          cases L with
          | nil => exact absurd rfl cE
          | cons a b => rfl
        have HC := Aside0.mk hC
        clear hcell hC
        by_cases c35 : H = 35
        · have hver : verdict (p, L) = .skip := by unfold verdict; rw [if_neg cA, if_pos (.inr (hhd.trans c35))]
          have HVER := Aside0.mk hver
          subst c35
          clear cA hver hhd
          gi_wp2
          refine ⟨KeepsFrom.refl _ _, ⟨rfl, rfl⟩, ⟨⟨v, HV.out, ?_⟩, HF.out, ?_⟩, HB.out⟩
          · rw [outL_snoc, HVER.out, List.append_nil]
            exact HSS.out
          · intro y hy
            rcases List.mem_append.1 hy with hy | hy
            · exact HBAD.out y hy
            · rw [List.mem_singleton.1 hy]
              unfold isBad
              rw [HVER.out]
        · have d35 : (H == 35) = false := beq_eq_false_iff_ne.2 c35
          have HW := Aside0.mk (fun W' h => token_wrong.calls (L.length + 1) (some ⟨g, o + p, none⟩) (c0 - p) L (wrongS false 0 L) W' h (by omega) (wrong_f L hl63))
          have hnsk : ¬ (L.isEmpty ∨ L.headD 0 = 35) := by
            rw [hhd]
            rintro (h | h)
            · exact cE (by simpa using h)
            · exact c35 h
          have hver0 : verdict (p, L) = if 0 ≤ wrongS false 0 L then .bad 5 (p + wrongS false 0 L) else .line ⟨p, wordsAt p (piecesB (strOfNums L))⟩ := by
            unfold verdict
            rw [if_neg cA, if_neg hnsk]
          have hL65 : L.length ≤ 65536 := by omega
          have hrng := wrongS_range L false 0
          simp only [Int.natCast_zero, Int.zero_add] at hrng
          have HVER := Aside0.mk hver0
          clear hver0 hnsk cA hhd c35
          gi_wp2_with fail
          refine ⟨trivial, rfl, (CallsIn.inRound l (callsIn_wide.2 (HW.out _ HC.out))).mono ?_⟩
          rintro e W3 ⟨rfl, hdr⟩
          have hb3 := hdr.below
          have HB3 := Aside0.mk (HB.out.trans (hb3.mono HB.out.size))
          have HK3 := Aside0.mk (fun n => keepsFrom_below n hb3)
          have HV3 := Aside0.mk (blk_below HV.out hb3)
          have HF3 := Aside0.mk (blk_below HF.out hb3)
          have HS3 := Aside0.mk (Kd.S_below HSS.out hb3)
          have HC3 := Aside0.mk (Kd.C_below HC.out hb3)
          have HT3 := Aside0.mk (Two.below (B1 := w.heap.size + 1 + 1) (B2 := g) (A := W) (B := W) ⟨rfl, rfl⟩ (by omega) (by omega) hb3)
          have HRL3 := Aside0.mk (blk_below HRL.out hb3)
          clear hdr hb3 HV HF HSS HC m0 m1 k0 k1 hH HW
          have m0 := blk_cell HF3.out 0
          have m1 := blk_cell HF3.out 1
          have k0 := blk_frozen HF3.out 0
          have k1 := blk_frozen HF3.out 1
          replace m0 := m0.trans rfl
          replace m1 := m1.trans rfl
          by_cases cw : 0 ≤ wrongS false 0 L
          · have hver := HVER.out
            rw [if_pos cw] at hver
            generalize wrongS false 0 L = i at *
            have HVER2 := Aside0.mk hver
            have e1 : IntKind.i64.wrap ((p : Int) + i) = (p : Int) + i := IntWalk.i64_in _ (by omega)
            have e2 : decide ((0 : Int) ≤ i) = true := decide_eq_true cw
            clear hver HVER
            gi_wp2
            refine ⟨(HK3.out _).trans (((KeepsOthers.setCell _ _ _).trans (KeepsOthers.setCell _ _ _)).from _), pre, (p, L), 5, p + i, rfl, rfl, HBAD.out, HVER2.out, ⟨by decide, ⟨v, ?_⟩, ?_⟩, ?_⟩
            · exact blk_far (blk_far HV3.out (by simp) _) (by simp) _
            · exact blk_put (blk_put HF3.out 0 (.int .i64 5) rfl) 1 (.int .i64 (p + i)) rfl
            · exact (HB3.out.setCell (p := ⟨w.heap.size + 1, 0, none⟩) (by simp) _).setCell (p := ⟨w.heap.size + 1, 1, none⟩) (by simp) _
          · have hver := HVER.out
            rw [if_neg cw] at hver
            have HVER2 := Aside0.mk hver
            have e2 : decide ((0 : Int) ≤ wrongS false 0 L) = false := decide_eq_false cw
            clear hver HVER
            have hbw : Below W3.heap.size W3 ((W3.alloc (.cells #[.int .i64 (p : Int), .slice none 0 0] 58)).alloc (.cells #[.int .i64 (p : Int)] 3)) := ((Below.refl _ W3).alloc (Nat.le_refl _) _).alloc (by simp) _
            have hcv := Kd.C_string (P := Tryz.prog) (c := c0 - p) Tryz.underlying55 Tryz.underlying5 Tryz.underlying9 (Kd.C_below HC3.out hbw)
            gi_wp2_with fail
            obtain ⟨W4, hW4⟩ : ∃ W4, Aside0 (W4 = (W3.alloc (.cells #[.int .i64 (p : Int), .slice none 0 0] 58)).alloc (.cells #[.int .i64 (p : Int)] 3)) := ⟨_, ⟨rfl⟩⟩
            have hs4 : W4.heap.size = W3.heap.size + 1 + 1 := by rw [hW4.out]; simp
            have HB4 := Aside0.mk (show Below W3.heap.size W3 W4 by rw [hW4.out]; exact hbw)
            have HL4 := Aside0.mk (show W4.heap[W3.heap.size]? = some (.cells #[.int .i64 (p : Int), .slice none 0 0] 58 (0, 0)) by rw [hW4.out]; exact blk_below (blk_new W3 _) ((Below.refl _ _).alloc (Nat.le_refl _) _))
            have HP4 := Aside0.mk (show Boxed W4 (W3.heap.size + 1) 3 (.int .i64 (p : Int)) by
              rw [hW4.out]
              have := blk_new (W3.alloc (.cells #[.int .i64 (p : Int), .slice none 0 0] 58)) (.cells #[.int .i64 (p : Int)] 3)
              rw [World.size_alloc] at this
              exact this)
            rw [← hW4.out]
            clear hcv hbw hW4
            refine ⟨trivial, rfl, (CallsIn.inRound l (SplitSeq_in (strOfNums L) W4)).mono ?_⟩
            rintro e W5 ⟨rfl, hW5⟩
            have hs5 : W5.heap.size = W4.heap.size + 1 + 1 + 1 := by rw [hW5]; simp
            have HB5 := Aside0.mk (show Below W4.heap.size W4 W5 by rw [hW5]; exact (((Below.refl _ W4).alloc (Nat.le_refl _) _).alloc (by simp) _).alloc (by simp; omega) _)
            have b2 := Aside0.mk (show Boxed W5 W4.heap.size 9 (.string (strOfNums L)) by rw [hW5]; exact ((Boxed.new W4 _ _).alloc _).alloc _)
            have b1 := Aside0.mk (show Boxed W5 (W4.heap.size + 1) 9 (.string ⟨#[32]⟩) by
              rw [hW5]
              have := Boxed.new (W4.alloc (.cells #[.string (strOfNums L)] 9)) 9 (.string ⟨#[32]⟩)
              rw [World.size_alloc] at this
              exact this.alloc _)
            have b3 := Aside0.mk (show Boxed W5 (W4.heap.size + 1 + 1) 3 (.int .i64 0) by
              rw [hW5]
              have := Boxed.new ((W4.alloc (.cells #[.string (strOfNums L)] 9)).alloc (.cells #[.string ⟨#[32]⟩] 9)) 3 (.int .i64 0)
              rw [World.size_alloc, World.size_alloc] at this
              exact this)
            have HL5 := Aside0.mk (blk_below HL4.out HB5.out)
            have HP5 := Aside0.mk (blk_below HP4.out HB5.out)
            have HB35 := Aside0.mk (HB4.out.trans (HB5.out.mono HB4.out.size))
            have HRL5 := Aside0.mk (blk_below HRL3.out HB35.out)
            have hsz : (strOfNums L).size = L.length := strOfNums_size L
            clear hW5 HL4 HP4
            have HS4 := Aside0.mk hs4
            have HS5 := Aside0.mk hs5
            have HSZ := Aside0.mk hsz
            clear hs4 hs5 hsz
            gi_wp2_with fail
            have hs4 := HS4.out
            have hs5 := HS5.out
            have hsz := HSZ.out
            have hspl := spl_seq (W4.heap.size + 1) W4.heap.size (W4.heap.size + 1 + 1) (by omega) (by omega) (strOfNums L) (by omega) W5 (by omega) (by omega) (by omega) b1.out.cell b2.out.cell b2.out.frozen b3.out.cell
            refine range_lawN (gf := 59) (lb := #[.pointer (some ⟨W4.heap.size + 1, 0, none⟩), .pointer (some ⟨W4.heap.size, 0, none⟩), .pointer (some ⟨W4.heap.size + 1 + 1, 0, none⟩)]) (l₀ := l) (r₀ := rL) HRL5.out rfl (enters_of Tryz.func59 (by kernel_rfl) rfl) hspl (Below.refl _ _)
              (fun h k => boxes3_trans h k) (fun W l o o' hl ho _ _ => ⟨World.putObj_heap_other (by omega), World.putObj_heap_other (by omega), World.putObj_heap_other (by omega)⟩)
              (fun A B h k o hk ho => by obtain ⟨v, rfl⟩ := h; exact (Below.heap_setCell _ _ _ k (by simp; omega)).trans ho) (fun _ => rfl)
              (WorI W3 W4.heap.size (p : Int)) (fun _ _ _ => False) (worI_own W3 _ _ _ (by omega)) (fun _ _ _ _ _ hs _ _ => hs) (worI_set W3 W4.heap.size (p : Int) (by omega)) (fun _ _ _ _ h _ => h)
              ⟨⟨_, HL5.out, Kd.R_nil _ _ _ _ _, HP5.out, by omega⟩, HB35.out⟩ ?_ ?_ ?_ ?_ ?_
            rotate_left 1
            · intro l x W K hK
              gi_wp2
              exact hK
            · rintro l2 prew x W6 ⟨⟨v2, hv2, hR2, hp2, hm2⟩, hB2⟩ hpx
              have hsum := sumB_prefix hpx
              rw [piecesB_sum, hsz] at hsum
              have hsn : sumB (prew ++ [x]) = sumB prew + (x.size + 1) := by simp [sumB]
              have hlw := sumB_length prew
              have hend := endAt_sum prew (p : Int)
              have hwl := wordsAt_length prew (p : Int)
              obtain ⟨E, hE⟩ : ∃ E, Aside0 (endAt (p : Int) prew = E) := ⟨_, ⟨rfl⟩⟩
              rw [hE.out] at hp2 hend
              have b0 : 0 ≤ E := by omega
              have b1' : E ≤ 200000000 := by omega
              have b2' : x.size ≤ 65537 := by omega
              have hl24 : ((wordsAt (p : Int) prew).length + 1) * 24 ≤ 140737488355328 := by rw [hwl]; omega
              have hfr : ∀ k, W6.heap.size ≤ k → (k ≠ W4.heap.size ∧ k ≠ W4.heap.size + 1 ∧ k ≠ W4.heap.size + 1 + 1) := by
                intro k hk
                omega
              have HV6 := Aside0.mk hv2
              have HR6 := Aside0.mk hR2
              have HP6 := Aside0.mk hp2
              have HB6 := Aside0.mk hB2
              have HSN := Aside0.mk hsn
              have HL24 := Aside0.mk hl24
              have HFR := Aside0.mk hfr
              have HM2 := Aside0.mk hm2
              have n0 := (blk_cell hv2 0).trans rfl
              have n1 := (blk_cell hv2 1).trans rfl
              have f0 := blk_frozen hv2 0
              have f1 := blk_frozen hv2 1
              have q0 := hp2.cell
              have q1 := hp2.frozen
              clear hsum hsn hlw hend hwl hpx hv2 hR2 hp2 hB2 hm2 hs4 hs5 hsz hl24 hfr
              gi_wp2_with (gi_at_builtin; refine in_R_append k60 (w0 := W3) W3.heap.size rfl _ _ 56 60 (.agg #[.string ⟨#[]⟩, .int .i64 0]) 24 rfl Tryz.underlying56 infoW rfl (by decide) (by decide) v2 (wordsAt (p : Int) prew) ⟨x, E⟩ [.string x, .int .i64 E] (fun k => k ≠ W4.heap.size ∧ k ≠ W4.heap.size + 1 ∧ k ≠ W4.heap.size + 1 + 1) (fun _ => False) rfl rfl (k60_mkM _ _ _ (⟨x, E⟩ : S60)) (fun _ h => h.elim) HFR.out HR6.out HB6.out HB6.out.size HL24.out ?_; intro v9 w9 hR9 hB9 hg9 hat9; obtain ⟨ad9, c9, rfl⟩ := Kd.R_slice1 hR9 (by simp); have ne1 := Kd.R_ne HR6.out HV6.out (by decide); have ne2 := Kd.R_ne HR6.out HP6.out (by decide); have HV9 := Aside0.mk ((hg9.block _ (blk_lt HV6.out) ne1).trans HV6.out); have HP9 := Aside0.mk ((hg9.block _ (blk_lt HP6.out) ne2).trans HP6.out); have n0' := (blk_cell HV9.out 0).trans rfl; have n1' := (blk_cell HV9.out 1).trans rfl; have f0' := blk_frozen HV9.out 0; have f1' := blk_frozen HV9.out 1; have q0' := (blk_cell HP9.out 0).trans rfl; have q1' := blk_frozen HP9.out 0; have HR9 := Aside0.mk hR9; have HB9 := Aside0.mk hB9; have HG9 := Aside0.mk hg9; clear hR9 hB9 hg9 hat9 ne1 ne2)
              have hR9 := HR9.out
              have e9 : (wordsAt (p : Int) prew ++ [(⟨x, E⟩ : S60)]).length = (wordsAt (p : Int) prew).length + 1 := by simp
              rw [e9] at hR9
              have hs4 := HS4.out
              have hm2 := HM2.out
              have hg9 := HG9.out.size
              have a1 := Kd.R_set hR9 HV9.out (by decide) 1 (.slice (some ad9) ((wordsAt (p : Int) prew).length + 1) c9)
              have a2 := blk_far HP9.out (p := ⟨W3.heap.size, 1, none⟩) (by simp) (.slice (some ad9) ((wordsAt (p : Int) prew).length + 1) c9)
              have keep : ∀ k, k ≠ W3.heap.size → k ≠ W3.heap.size + 1 → k < W6.heap.size → some k ≠ v2.ownBlock → ((w9.setCell ⟨W3.heap.size, 1, none⟩ (.slice (some ad9) ((wordsAt (p : Int) prew).length + 1) c9)).setCell ⟨W3.heap.size + 1, 0, none⟩ (.int .i64 (E + ((x.size : Int) + 1)))).heap[k]? = W6.heap[k]? := fun k h1 h2 h3 h4 =>
                ((Below.heap_setCell _ _ _ k h2).trans (Below.heap_setCell _ _ _ k h1)).trans (HG9.out.block k h3 h4)
              refine ⟨((((KeepsOthers.of_grownBy HG9.out (fun j o' hj ho => ?_)).trans (KeepsOthers.setCell _ _ _)).trans (KeepsOthers.setCell _ _ _)).from _), ⟨keep _ (by omega) (by omega) (by omega) (fun e => (HR6.out.1 _ e.symm).2.1 rfl), keep _ (by omega) (by omega) (by omega) (fun e => (HR6.out.1 _ e.symm).1 rfl), keep _ (by omega) (by omega) (by omega) (fun e => (HR6.out.1 _ e.symm).2.2 rfl)⟩, ⟨_, blk_far (blk_put HV9.out 1 _ rfl) (by simp) _, ?_, ?_, by simp; omega⟩, (HB9.out.setCell (p := ⟨W3.heap.size, 1, none⟩) (Nat.le_refl _) _).setCell (p := ⟨W3.heap.size + 1, 0, none⟩) (Nat.le_succ _) _⟩
              · obtain ⟨cells, hc⟩ := Kd.R_typed HR6.out j hj
                rw [hc] at ho
                cases ho
                rfl
              · rw [wordsAt_snoc, hE.out]
                exact Kd.R_set a1 a2 (by decide) 0 _
              · rw [endAt_snoc, hE.out, Int.add_assoc]
                exact blk_put a2 0 _ rfl
            · rintro wsx W6 rfl ⟨⟨v2, hv2, hR2, hp2, hm2⟩, hB2⟩
              have hb6 : Below W3.heap.size W3 W6 := hB2
              have hw3 : w.heap.size + 1 + 1 + 1 ≤ W3.heap.size := by have := (HK3.out 0).size; omega
              have hv6 := blk_below HV3.out hb6
              obtain ⟨A2, c2, rfl⟩ := Kd.R_slice hR2
              obtain ⟨A1, c1, rfl⟩ := Kd.S_slice HS3.out
              have HO := Aside0.mk (Kd.S_mono (Kd.S_old HS3.out hb6) (fun k hk => ⟨hk.1, Nat.not_le.2 hk.2⟩ : ∀ k, _ → (k ≠ w.heap.size + 1 + 1 ∧ ¬ W3.heap.size ≤ k)))
              have hp := k58_mkM W6 w.heap.size (fun k => W3.heap.size ≤ k) (⟨p, wordsAt p (piecesB (strOfNums L))⟩ : S58) (Kd.R_lower (Kd.R_mono (Kd.R_bound hR2) (fun k hk => hk.2.1)) (show w.heap.size ≤ W3.heap.size by omega))
              have HP := Aside0.mk hp
              have hokp : ∀ k, W3.heap.size ≤ k → (k ≠ w.heap.size + 1 + 1 ∧ some k ≠ (Value.slice A1 (outL pre).length c1).ownBlock) := fun k hk => ⟨by omega, fun e => by have := Kd.S_lt HS3.out k e.symm; omega⟩
              have HOKP := Aside0.mk hokp
              have hfr : ∀ k, W6.heap.size ≤ k → k ≠ w.heap.size + 1 + 1 := fun k hk => by have := hb6.size; omega
              have HFR := Aside0.mk hfr
              have HBw := Aside0.mk (HB3.out.trans (hb6.mono (by omega)))
              have hlp : ((outL pre).length + 1) * 32 ≤ 140737488355328 := by
                have h1 := outL_length pre
                have h2 := HR.out.length_le
                have h3 := cutF_length bs (bs.length + 1) 0
                rw [List.drop_zero] at h3
                simp only [List.length_append, List.length_cons, List.length_nil] at h2
                omega
              have HLP := Aside0.mk hlp
              have HSw := Aside0.mk (HBw.out.size)
              have HV6 := Aside0.mk hv6
              have HF6 := Aside0.mk (blk_below HF3.out hb6)
              have HB6 := Aside0.mk hb6
              have n0 := (blk_cell hv2 0).trans rfl
              have n1 := (blk_cell hv2 1).trans rfl
              have f0 := blk_frozen hv2 0
              have f1 := blk_frozen hv2 1
              have q0 := (blk_cell hv6 0).trans rfl
              have q1 := blk_frozen hv6 0
              clear hp hokp hfr hlp hv6 hb6 hv2 hR2 hp2 hm2 hB2 hs4 hs5 hsz m0 m1 k0 k1
              gi_wp2_with (gi_at_builtin; refine in_S_append k58 (w0 := w) w.heap.size rfl _ _ 50 58 (.agg #[.int .i64 0, .slice none 0 0]) 32 rfl Tryz.underlying50 infoL rfl (by decide) (by decide) (.slice A1 (outL pre).length c1) (outL pre) ⟨p, wordsAt p (piecesB (strOfNums L))⟩ [.int .i64 p, .slice A2 (wordsAt (p : Int) (piecesB (strOfNums L))).length c2] (fun k => k ≠ w.heap.size + 1 + 1) (fun k => W3.heap.size ≤ k) rfl rfl HP.out HOKP.out HFR.out HO.out HBw.out HSw.out HLP.out ?_; intro v9 w9 hR9 hB9 hg9 hat9; obtain ⟨ad9, c9, rfl⟩ := Kd.R_slice1 (Kd.S_R hR9) (by simp); have ne1 := Kd.S_ne HO.out HV6.out (by decide); have HV9 := Aside0.mk ((hg9.block _ (blk_lt HV6.out) ne1).trans HV6.out); have q0' := (blk_cell HV9.out 0).trans rfl; have q1' := blk_frozen HV9.out 0; have HR9 := Aside0.mk hR9; have HB9 := Aside0.mk hB9; have HG9 := Aside0.mk hg9; clear hR9 hB9 hg9 hat9 ne1)
              have hR9 := HR9.out
              have e9 : (outL pre ++ [(⟨p, wordsAt p (piecesB (strOfNums L))⟩ : S58)]).length = (outL pre).length + 1 := by simp
              rw [e9] at hR9
              have hg9 := HG9.out.size
              have hb6 := HB6.out.size
              have hlt := Kd.S_lt HO.out
              have hbs := Kd.S_base HO.out
              have hne : some (w.heap.size + 1 + 1) ≠ (Value.slice A1 (outL pre).length c1).ownBlock := fun e => ((Kd.S_R HO.out).1 _ e.symm).1 rfl
              have hne2 : some g ≠ (Value.slice A1 (outL pre).length c1).ownBlock := fun e => by have := hbs _ e.symm; omega
              have hnf : some (w.heap.size + 1) ≠ (Value.slice A1 (outL pre).length c1).ownBlock := Kd.S_ne HO.out HF6.out (by decide)
              have two6 := HT3.out.below (by omega) (by omega) HB6.out
              refine ⟨((HK3.out _).trans (keepsFrom_below _ HB6.out)).trans (((KeepsOthers.of_grownBy HG9.out (fun j o' hj ho => ?_)).trans (KeepsOthers.setCell _ _ _)).from _), ⟨?_, ?_⟩, ⟨⟨_, blk_put HV9.out 0 _ rfl, ?_⟩, ?_, ?_⟩, HB9.out.setCell (p := ⟨w.heap.size, 0, none⟩) (Nat.le_refl _) _⟩
              · obtain ⟨cells, hc⟩ := Kd.S_typed HO.out j hj
                rw [hc] at ho
                cases ho
                rfl
              · exact ((Below.heap_setCell w9 ⟨w.heap.size, 0, none⟩ _ (w.heap.size + 1 + 1) (by simp; omega)).trans (HG9.out.block (w.heap.size + 1 + 1) (by omega) hne)).trans two6.1
              · exact ((Below.heap_setCell w9 ⟨w.heap.size, 0, none⟩ _ g (Nat.ne_of_lt hgw)).trans (HG9.out.block g (by omega) hne2)).trans two6.2
              · rw [outL_snoc, HVER2.out]
                exact Kd.S_set hR9 HV9.out (by decide) 0 _
              · exact blk_far (p := ⟨w.heap.size, 0, none⟩) ((HG9.out.block (w.heap.size + 1) (by omega) hnf).trans HF6.out) (by simp) _
              · intro y hy
                rcases List.mem_append.1 hy with hy | hy
                · exact HBAD.out y hy
                · rw [List.mem_singleton.1 hy]
                  unfold isBad
                  rw [HVER2.out]
            · intro c pre W _ h
              exact h.elim
  · rintro D xs W hD rfl ⟨⟨⟨v, hv, hS⟩, hf, hbad⟩, hB⟩ hK
    have hr := linesOf_good _ hbad
    obtain ⟨A1, c1, rfl⟩ := Kd.S_slice hS
    have HR := Aside0.mk hr
    have HSS := Aside0.mk hS
    have HV := Aside0.mk hv
    have HF := Aside0.mk hf
    have HB := Aside0.mk hB
    have HK := Aside0.mk hK
    have HD := Aside0.mk hD
    have m0 := (blk_cell hf 0).trans rfl
    have m1 := (blk_cell hf 1).trans rfl
    have k0 := blk_frozen hf 0
    have k1 := blk_frozen hf 1
    have q0 := (blk_cell hv 0).trans rfl
    have q1 := blk_frozen hv 0
    clear hr hS hv hf hbad hB hK hD
    go_wp2
    go_region
    all_goals go_wp2
    all_goals rw [Exit.noGoto_ret]
    change bodyPostM Fence.wide 0 Tryz.prog Tryz.f18 _ .ret _ _
    have hD := HD.out
    rw [HS2.out] at hD
    refine ⟨by simp, .inl ⟨_, _, rfl, run_takeDeferred (ds := []) (((((KeepsOthers.setCell _ _ _).trans (KeepsOthers.setCell _ _ _)).trans (KeepsOthers.setCell _ _ _)).trans (KeepsOthers.drew _)).same D _ HK.out rfl), ?_⟩⟩
    have v1 := blk_put HV.out 0 (Value.slice A1 (outL (cutF (bs.length + 1) 0 bs)).length c1) rfl
    have f1 := blk_far HF.out (p := ⟨w.heap.size, 0, none⟩) (by simp) (Value.slice A1 (outL (cutF (bs.length + 1) 0 bs)).length c1)
    have f2 := blk_put f1 0 (.int .i64 0) rfl
    have v2 := blk_far v1 (p := ⟨w.heap.size + 1, 0, none⟩) (by simp) (.int .i64 0)
    have v3 := blk_far v2 (p := ⟨w.heap.size + 1, 1, none⟩) (by simp) (.int .i64 0)
    have f3 := blk_put f2 1 (.int .i64 0) rfl
    have a1 := Kd.S_set (Kd.S_set (Kd.S_set HSS.out HV.out (by decide) 0 (Value.slice A1 (outL (cutF (bs.length + 1) 0 bs)).length c1)) f1 (by decide) 0 (.int .i64 0)) f2 (by decide) 1 (.int .i64 0)
    have hB3 := ((HB.out.setCell (p := ⟨w.heap.size, 0, none⟩) (Nat.le_refl _) (Value.slice A1 (outL (cutF (bs.length + 1) 0 bs)).length c1)).setCell (p := ⟨w.heap.size + 1, 0, none⟩) (Nat.le_succ _) (.int .i64 0)).setCell (p := ⟨w.heap.size + 1, 1, none⟩) (Nat.le_succ _) (.int .i64 0)
    have hKD := ((((KeepsOthers.setCell W ⟨w.heap.size, 0, none⟩ (Value.slice A1 (outL (cutF (bs.length + 1) 0 bs)).length c1)).trans (KeepsOthers.setCell _ ⟨w.heap.size + 1, 0, none⟩ (.int .i64 0))).trans (KeepsOthers.setCell _ ⟨w.heap.size + 1, 1, none⟩ (.int .i64 0))).same D _ HK.out rfl)
    have hg0 := grownBy_putObj' ((((W.setCell ⟨w.heap.size, 0, none⟩ (Value.slice A1 (outL (cutF (bs.length + 1) 0 bs)).length c1)).setCell ⟨w.heap.size + 1, 0, none⟩ (.int .i64 0)).setCell ⟨w.heap.size + 1, 1, none⟩ (.int .i64 0)).drew) D (.deferred none)
    have hnc : ∀ r, some D = some r → ∃ o : Obj, ((((W.setCell ⟨w.heap.size, 0, none⟩ (Value.slice A1 (outL (cutF (bs.length + 1) 0 bs)).length c1)).setCell ⟨w.heap.size + 1, 0, none⟩ (.int .i64 0)).setCell ⟨w.heap.size + 1, 1, none⟩ (.int .i64 0)).drew).heap[r]? = some o ∧ o.isCells = false := fun r e => by
      cases e
      exact ⟨_, hKD, rfl⟩
    refine ⟨_, lines_results _ _ w.heap.size (w.heap.size + 1) (Value.slice A1 (outL (cutF (bs.length + 1) 0 bs)).length c1) 0 0 rfl rfl rfl (blk_other (blk_drew v3) rfl hg0 hnc) (blk_other (blk_drew f3) rfl hg0 hnc), ?_⟩
    rw [HR.out]
    exact ⟨_, rfl, S_other (Kd.S_drew (Kd.S_mono a1 (fun _ _ => trivial))) hg0 hnc, hB3.drew.trans (belowK_b (w := w) (Nat.le_refl _) _ D _ _ (by omega) hKD rfl rfl)⟩
  · rintro D c pre W hD hpre ⟨q, x, e, pp, rfl, rfl, hq, hx, ⟨he, ⟨v, hv⟩, hf⟩, hB⟩ hK
    obtain ⟨rest, hrest⟩ := hpre
    have hr := linesOf_bad q x e pp rest hq hx he
    rw [List.append_assoc] at hrest
    have hr2 : linesOf (cutF (bs.length + 1) 0 bs) = ([], e, pp) := by rw [← hrest]; exact hr
    have HR := Aside0.mk hr2
    have HV := Aside0.mk hv
    have HF := Aside0.mk hf
    have HB := Aside0.mk hB
    have HK := Aside0.mk hK
    have HD := Aside0.mk hD
    have m0 := (blk_cell hf 0).trans rfl
    have m1 := (blk_cell hf 1).trans rfl
    have k0 := blk_frozen hf 0
    have k1 := blk_frozen hf 1
    have q0 := (blk_cell hv 0).trans rfl
    have q1 := blk_frozen hv 0
    have e1 : (e != 0) = true := by simpa using he
    have e2 : (e == 0) = false := beq_eq_false_iff_ne.2 he
    clear hr hr2 hrest hv hf hB hK hD hq hx he
    refine wpIn_wide.2 ?_
    go_wp2
    go_region
    all_goals go_wp2
    all_goals rw [Exit.noGoto_ret]
    change bodyPostM Fence.wide 0 Tryz.prog Tryz.f18 _ .ret _ _
    have hD := HD.out
    rw [HS2.out] at hD
    refine ⟨by simp, .inl ⟨_, _, rfl, run_takeDeferred (ds := []) (((((KeepsOthers.setCell _ _ _).trans (KeepsOthers.setCell _ _ _)).trans (KeepsOthers.setCell _ _ _)).trans (KeepsOthers.drew _)).same D _ HK.out rfl), ?_⟩⟩
    have v1 := blk_put HV.out 0 (Value.slice none 0 0) rfl
    have f1 := blk_far HF.out (p := ⟨w.heap.size, 0, none⟩) (by simp) (Value.slice none 0 0)
    have f2 := blk_put f1 0 (.int .i64 e) rfl
    have v2 := blk_far v1 (p := ⟨w.heap.size + 1, 0, none⟩) (by simp) (.int .i64 e)
    have v3 := blk_far v2 (p := ⟨w.heap.size + 1, 1, none⟩) (by simp) (.int .i64 pp)
    have f3 := blk_put f2 1 (.int .i64 pp) rfl
    have hB3 := ((HB.out.setCell (p := ⟨w.heap.size, 0, none⟩) (Nat.le_refl _) (Value.slice none 0 0)).setCell (p := ⟨w.heap.size + 1, 0, none⟩) (Nat.le_succ _) (.int .i64 e)).setCell (p := ⟨w.heap.size + 1, 1, none⟩) (Nat.le_succ _) (.int .i64 pp)
    have hKD := ((((KeepsOthers.setCell W ⟨w.heap.size, 0, none⟩ (Value.slice none 0 0)).trans (KeepsOthers.setCell _ ⟨w.heap.size + 1, 0, none⟩ (.int .i64 e))).trans (KeepsOthers.setCell _ ⟨w.heap.size + 1, 1, none⟩ (.int .i64 pp))).same D _ HK.out rfl)
    have hg0 := grownBy_putObj' ((((W.setCell ⟨w.heap.size, 0, none⟩ (Value.slice none 0 0)).setCell ⟨w.heap.size + 1, 0, none⟩ (.int .i64 e)).setCell ⟨w.heap.size + 1, 1, none⟩ (.int .i64 pp)).drew) D (.deferred none)
    have hnc : ∀ r, some D = some r → ∃ o : Obj, ((((W.setCell ⟨w.heap.size, 0, none⟩ (Value.slice none 0 0)).setCell ⟨w.heap.size + 1, 0, none⟩ (.int .i64 e)).setCell ⟨w.heap.size + 1, 1, none⟩ (.int .i64 pp)).drew).heap[r]? = some o ∧ o.isCells = false := fun r e => by
      cases e
      exact ⟨_, hKD, rfl⟩
    refine ⟨_, lines_results _ _ w.heap.size (w.heap.size + 1) (Value.slice none 0 0) e pp rfl rfl rfl (blk_other (blk_drew v3) rfl hg0 hnc) (blk_other (blk_drew f3) rfl hg0 hnc), ?_⟩
    rw [HR.out]
    exact ⟨_, rfl, Kd.S_nil _ _ _ _ _, hB3.drew.trans (belowK_b (w := w) (Nat.le_refl _) _ D _ _ (by omega) hKD rfl rfl)⟩
set_option maxRecDepth 100000 in
set_option maxHeartbeats 1000000 in
theorem lines_long (A0 : Option Addr) (n c0 : Nat) (w : World) (hlen : 67108864 < n) :
    Calls Tryz.prog 18 #[.slice A0 n c0] w fun e w' => ∃ v0_ : Value, e = .returned (.tuple #[v0_, .agg #[.int .i64 4, .int .i64 67108864]]) ∧ Kd.S k58 58 w' w.heap.size (fun _ => True) v0_ [] ∧ Below w.heap.size w w' := by
  have z1 : decide (67108864 < (n : Int)) = true := decide_eq_true (by omega)
  have z2 : ((67108864 : Int) < (n : Int)) := by omega
  have bF := blk_new (w.alloc (.cells #[.slice none 0 0] 50)) (.cells #[.int .i64 4, .int .i64 67108864] 52)
  rw [World.size_alloc] at bF
  have BF := Aside0.mk bF
  clear bF
  go_enter Tryz.func18, Tryz.ntmps18
  go_wp2_with fail
  go_step3
  go_wp2_with fail
  rw [Exit.noGoto_ret]
  refine bodyPost_ret (lines_results _ _ w.heap.size (w.heap.size + 1) (.slice none 0 0) 4 67108864 rfl rfl rfl ((Boxed.new w _ _).alloc _) BF.out) rfl ?_
  exact ⟨_, rfl, Kd.S_nil _ _ _ _ _, ((Below.refl _ w).alloc (Nat.le_refl _) _).alloc (by simp) _⟩
theorem token_Lines.calls (A0 : Option Addr) (c0 : Nat) (l0 : List Int) (r1 : List (S58)) (r2 : Int) (r3 : Int) (w : World) (hr0 : Kd.C (Kd.int .u8) w A0 l0.length l0) (hc0 : l0.length ≤ c0) (h : token_Lines.f l0 = some (r1, r2, r3)) :
    Calls Tryz.prog 18 #[.slice A0 l0.length c0] w fun e w' => ∃ v0_ : Value, e = .returned (.tuple #[v0_, .agg #[.int .i64 r2, .int .i64 r3]]) ∧ Kd.S k58 58 w' w.heap.size (fun _ => True) v0_ r1 ∧ Below w.heap.size w w' := by
  unfold token_Lines.f at h
  by_cases hu : isU8 l0 = true
  · rw [if_pos hu] at h
    by_cases hl : 67108864 < l0.length
    · rw [if_pos hl] at h
      simp only [Option.some.injEq, Prod.mk.injEq] at h
      obtain ⟨rfl, rfl, rfl⟩ := h
      exact lines_long A0 l0.length c0 w hl
    · rw [if_neg hl] at h
      replace h := Option.some.inj h
      have e1 : r1 = (linesOf (cutF (l0.length + 1) 0 l0)).1 := by rw [h]
      have e2 : r2 = (linesOf (cutF (l0.length + 1) 0 l0)).2.1 := by rw [h]
      have e3 : r3 = (linesOf (cutF (l0.length + 1) 0 l0)).2.2 := by rw [h]
      rw [e1, e2, e3]
      by_cases h0 : l0.length = 0
      · obtain rfl : l0 = [] := List.length_eq_zero_iff.1 h0
        exact callsIn_wide.1 (lines_in A0 c0 [] w.heap.size 0 w rfl (by simp) hc0 (fun W2 hb hs hc => cut_seq_nil _ _ _ _ A0 c0 W2 hs hc) (by omega) (fun h => absurd rfl h) (fun i hi => by simp at hi))
      · obtain ⟨ad, rfl, h1⟩ := Kd.at_int hr0 0 (by omega) (by omega)
        have had : ad.block < w.heap.size := World.block_lt_of_cell? w (ad.add (0 : Int).toNat) h1
        obtain ⟨g, o, spot⟩ := ad
        have hspot : spot = none := by simpa [Addr.add] using World.cell?_spot h1
        subst hspot
        have hcs : ∀ i, i < l0.length → w.cell? ⟨g, o + i, none⟩ = some (.int .u8 (l0.getD i 0)) := by
          intro i hi
          obtain ⟨ad', e, hc⟩ := Kd.at_int hr0 (i : Int) (by omega) (by omega)
          cases e
          have e' : (⟨g, o, none⟩ : Addr).add ((i : Int)).toNat = ⟨g, o + i, none⟩ := by
            rw [Int.toNat_natCast]
            unfold Addr.add
            split <;> simp_all
          rw [e'] at hc
          rw [hc]
          rfl
        exact callsIn_wide.1 (lines_in _ c0 l0 g o w hu (by omega) hc0 (fun W2 hb hs hc => cut_seq _ g o c0 l0 hu (by omega) hc0 W2 hs (Nat.lt_of_lt_of_le had hb.size) hc (fun i hi => (hb.cell (p := ⟨g, o + i, none⟩) had).trans (hcs i hi))) (Nat.lt_trans had (by omega)) (fun _ => had) hcs)
  · rw [if_neg hu] at h
    cases h
end Go.Proofs.YtoenklncjbcgiaaGreatDoor.P
