/- What number.Put comes to: a number's decimal text. Every number. -/
import Derived.Test.YtkjnbfjbdlcehaaGreatDoorEDig
import Derived.Test.YtkjnbfjbdlcehaaGreatDoorPx1
namespace Go.Proofs.YtkjnbfjbdlcehaaGreatDoor.P
open Go.RowKit Go.Proofs.YtkjnbfjbdlcehaaGreatDoorW.PrintWords Go.Proofs.YtkjnbfjbdlcehaaGreatDoorW.PrintLast Go.Proofs.YtkjnbfjbdlcehaaGreatDoorW.PrintMore
set_option linter.unusedVariables false
set_option linter.unusedSimpArgs false
attribute [local go_sem] Oper.semAt_some

/-- The text's bytes, the last one first. -/
def putRev (a : Int) : List Int := digs 20 a.natAbs ++ (if a < 0 then [45] else [])
def number_Put.f (a0 : Int) : Option ByteArray := if isI64 a0 then some (strOfNums (putRev a0).reverse) else none

theorem digs_length : ∀ (f n : Nat), (digs f n).length ≤ f
  | 0, _ => by simp [digs]
  | f + 1, n => by
    unfold digs
    split
    · simp
    · have := digs_length f (n / 10)
      simp only [List.length_cons]
      omega
theorem digs_prefix_length {f n : Nat} {pre : List Int} {x : Int} (h : (pre ++ [x]) <+: digs f n) : pre.length + 1 ≤ f := by
  have h1 := h.length_le
  have h2 := digs_length f n
  simp only [List.length_append, List.length_cons, List.length_nil] at h1
  omega

theorem putRev_short (a : Int) : (putRev a).length < 4611686018427387904 := by
  unfold putRev
  have := digs_length 20 a.natAbs
  split <;> simp <;> omega
theorem putRev_neg (a : Int) (h : a < 0) : putRev a = digs 20 a.natAbs ++ [45] := by
  unfold putRev
  rw [if_pos h]
theorem putRev_nonneg (a : Int) (h : 0 ≤ a) : putRev a = digs 20 a.natAbs := by
  unfold putRev
  rw [if_neg (by omega), List.append_nil]
/-! ### slices.Reverse turns a row round -/
theorem rev_aux (l : List Int) (hn : l.length < 4611686018427387904) : ∀ (k i : Nat) (x : List Int), x.length = l.length → 2 * i ≤ l.length → l.length < 2 * i + 2 * k →
    (∀ p, p < l.length → x.getD p 0 = if p < i ∨ l.length ≤ p + i then l.getD (l.length - 1 - p) 0 else l.getD p 0) →
    slices_Reverse_byte_byte.l0 k x i ((l.length : Int) - 1 - i) = some l.reverse
  | 0, i, x, hx, hi, hk, hp => by omega
  | k + 1, i, x, hx, hi, hk, hp => by
    unfold slices_Reverse_byte_byte.l0
    by_cases c : (i : Int) < (l.length : Int) - 1 - i
    · rw [if_pos c, if_pos (by omega), if_pos (by omega), if_pos (by omega), if_pos (by omega)]
      have e1 : wrap64 ((i : Int) + 1) = ((i + 1 : Nat) : Int) := by unfold wrap64; omega
      have e2 : wrap64 ((l.length : Int) - 1 - i - 1) = (l.length : Int) - 1 - ((i + 1 : Nat) : Int) := by unfold wrap64; omega
      rw [e1, e2]
      refine rev_aux l hn k (i + 1) _ (by simp [hx]) (by omega) (by omega) ?_
      intro p hpl
      have e3 : ((l.length : Int) - 1 - i).toNat = l.length - 1 - i := by omega
      have hb := hp i (by omega)
      have he := hp (l.length - 1 - i) (by omega)
      rw [if_neg (by omega)] at hb he
      unfold rd
      rw [e3, Int.toNat_natCast]
      have g : ∀ (y : List Int) (q r : Nat) (v : Int), q < y.length → (y.set q v).getD r 0 = if r = q then v else y.getD r 0 := by
        intro y q r v hq
        rw [List.getD_eq_getElem?_getD, List.getD_eq_getElem?_getD, List.getElem?_set]
        by_cases cc : q = r
        · subst cc
          simp [hq]
        · rw [if_neg cc, if_neg (fun e => cc e.symm)]
      rw [g _ _ _ _ (by simp; omega), g _ _ _ _ (by omega)]
      by_cases c1 : p = l.length - 1 - i
      · subst c1
        rw [if_pos rfl, if_pos (by omega), hb]
        congr 1
        omega
      · rw [if_neg c1]
        by_cases c2 : p = i
        · subst c2
          rw [if_pos rfl, if_pos (by omega), he]
        · rw [if_neg c2, hp p hpl]
          by_cases c3 : p < i ∨ l.length ≤ p + i
          · rw [if_pos c3, if_pos (by omega)]
          · rw [if_neg c3, if_neg (by omega)]
    · rw [if_neg c]
      congr 1
      refine List.ext_getElem (by simp [hx]) ?_
      intro p h1 h2
      have h := hp p (by omega)
      rw [List.getElem_reverse]
      have ex : x[p] = x.getD p 0 := by simp [List.getD, h1]
      rw [ex, h]
      by_cases c3 : p < i ∨ l.length ≤ p + i
      · rw [if_pos c3]
        simp [List.getD, show l.length - 1 - p < l.length by omega]
      · rw [if_neg c3]
        have : p = l.length - 1 - p := by omega
        simp [List.getD, show p < l.length by omega]
        congr 1
theorem rev_f (l : List Int) (hn : l.length < 4611686018427387904) : slices_Reverse_byte_byte.f (l.length + 1) l = some l.reverse := by
  unfold slices_Reverse_byte_byte.f
  rw [show wrap64 ((l.length : Int) - 1) = (l.length : Int) - 1 - ((0 : Nat) : Int) by unfold wrap64; omega]
  exact rev_aux l hn (l.length + 1) 0 l rfl (by omega) (by omega) (fun p hp => by rw [if_neg (by omega)])

theorem info5' : (Tryz.prog.info? 5).map (fun i => (i.zero, i.size, i.bytes)) = some (some (.int .u8 0), 1, 1) := by kernel_rfl

/-- Reverse at a row of one's own, in the wide fence. -/
theorem reverse_own (v : Value) (l : List Int) (hl : l.length < 4611686018427387904) (base : Nat) (w : World) (ho : w.ownsRow base 5 1 v l.length (l.map (Value.int .u8))) (w0 : World) (hw0 : w0.heap.size = base) (hb : Below base w0 w) :
    CallsIn Fence.wide 0 Tryz.prog 94 #[v] w fun e w' => e = .returned (.tuple #[]) ∧ w'.ownsRow base 5 1 v l.length (l.reverse.map (Value.int .u8)) ∧ Below base w0 w' ∧ Kept w w' (fun k => v.ownBlock = some k) := by
  subst hw0
  refine callsIn_wide.2 ((slices_Reverse_byte_byte.calls (l.length + 1) (fun k => v.ownBlock = some k) v l l.reverse w0 w hb (Kd.R_of_own ho (fun _ h => h)) (rev_f l hl)).mono ?_)
  rintro e w' ⟨rfl, hr, hb', hk⟩
  have h := Kd.own_of_R hr
  rw [List.length_reverse] at h
  exact ⟨rfl, h, hb', hk⟩

theorem boxed_own {β : Type} (B : Nat) (t : TypeId) : Own (fun (_ : β) (W : World) => ∃ u, Boxed W B t u) := by
  rintro s X Y row ⟨u, hu⟩ hg hrow
  refine ⟨u, hu.kept hg (fun e' => ?_)⟩
  obtain ⟨o, ho, hc⟩ := hrow B e'.symm
  rw [show X.heap[B]? = _ from hu] at ho
  cases ho
  cases hc
theorem ownsRow_not_defer {W : World} {base k D : Nat} {e : TypeId} {size : Nat} {v : Value} {xs : List Value} (h : W.ownsRow base e size v k xs) {l : Option (List Deferred)} (hD : W.heap[D]? = some (.deferred l)) : v.ownBlock ≠ some D := by
  rcases h.2 with ⟨rfl, _⟩ | ⟨g, cap, cur, rfl, _, hgb, _⟩
  · simp [Value.ownBlock]
  · intro e'
    obtain rfl : g = D := by simpa [Value.ownBlock] using e'
    rw [hgb] at hD
    cases hD
/-- The rounds' state: the row in its box, the number's box, all else as it was. -/
def PutI (w : World) (pre : List Int) (W : World) : Prop :=
  (∃ v, Boxed W w.heap.size 41 v ∧ W.ownsRow w.heap.size 5 1 v pre.length (pre.map (Value.int .u8)) ∧ True) ∧ (∃ u, Boxed W (w.heap.size + 1) 143 u) ∧ Below w.heap.size w W

attribute [local irreducible] digs putRev
set_option maxRecDepth 100000 in
set_option maxHeartbeats 400000 in
theorem put_in (a : Int) (ha : isI64 a) (w : World) :
    CallsIn Fence.wide 0 Tryz.prog 59 #[.int .i64 a] w fun e w' => e = .returned (.string (strOfNums (putRev a).reverse)) ∧ Below w.heap.size w w' := by
  obtain ⟨i0, hi, hz0, hz1, hz2⟩ := info_parts info5'
  refine callsIn_of_wp_marks Tryz.func59 rfl trivial ?_ rfl
  simp only [Tryz.ntmps59, List.size_toArray, List.length_cons, List.length_nil, Nat.reduceAdd, Nat.reduceSub, Array.replicate_succ, Array.replicate_zero, List.push_toArray, List.append_toArray, List.nil_append, List.cons_append]
  gi_wp2_with fail
  all_goals refine ⟨trivial, rfl, (digits_in _ _).mono ?_⟩
  all_goals rintro e w1 ⟨rfl, rfl⟩
  all_goals (
    gi_wp2_with fail
    have hfar : ∃ n : Nat, Aside0 (n = a.natAbs) := ⟨_, ⟨rfl⟩⟩
    obtain ⟨n, hn⟩ := hfar
    have bO := Boxed.new w 41 (.slice none 0 0)
    have bN := Boxed.new (w.alloc (.cells #[.slice none 0 0] 41)) 143 (.int .u64 n)
    rw [World.size_alloc] at bN
    have hn20 : n < 10 ^ 20 := by
      have := hn.out
      unfold isI64 at ha
      omega
    first
    | have ef : IntKind.u64.wrap (-IntKind.u64.wrap a) = (n : Int) := by
        have := hn.out
        simp only [IntKind.wrap_u64]
        unfold isI64 at ha
        omega
      rw [ef]
      clear ef
    | have ef : IntKind.u64.wrap a = (n : Int) := by
        have := hn.out
        simp only [IntKind.wrap_u64]
        unfold isI64 at ha
        omega
      rw [ef]
      clear ef
    refine range_law (encs := fun x : Int => #[.int .u8 x]) rfl (enters_of Tryz.func113 (by kernel_rfl) rfl) (digits_seq (w.heap.size + 1) 20 n hn20 (by omega) (by omega) _ (by simp) bN.cell bN.frozen) (Below.refl _ _)
      (fun h k => k.trans h) (fun W l o o' hl ho _ _ => World.putObj_heap_other (by simp at hl; omega)) (fun A B h k o hk ho => by obtain ⟨v, rfl⟩ := h; exact (Below.heap_setCell _ _ _ k (by simp at hk; simp; omega)).trans ho) (fun _ => rfl)
      (PutI w) (fun _ _ _ => False)
      (OwnFrom.and (Own.from (holdsRow_own w.heap.size w.heap.size 41 5 1 (fun pre : List Int => pre.length) (fun pre => pre.map (Value.int .u8)) (fun _ _ => True)) _) (OwnFrom.and (Own.from (boxed_own (w.heap.size + 1) 143) _) (ownFrom_below (Nat.le_refl _) (by simp; omega))))
      (fun _ _ _ _ _ hs _ _ => hs) ?_ (fun _ _ _ _ h _ => h) ⟨⟨_, bO.alloc _, World.ownsRow_nil _ _ _ _, trivial⟩, ⟨_, bN⟩, ((Below.refl _ w).alloc (Nat.le_refl _) _).alloc (by simp) _⟩ ?_ ?_ ?_ ?_ ?_
    rotate_left 2
    · intro l x W K hK
      gi_wp2
      exact hK
    · rintro l pre x W ⟨⟨v, hv, hrow, _⟩, ⟨u, hu⟩, hB⟩ hlt
      have hc := hv.cell
      have hpl := digs_prefix_length hlt
      have HR := Aside0.mk hrow
      have HU := Aside0.mk hu
      have HB := Aside0.mk hB
      have HV := Aside0.mk hv
      clear hu hB hlt hv hrow
      gi_wp2_with (gi_at_builtin; refine wpListIn_append_own _ rfl _ _ 41 rfl w.heap.size 5 i0 (.int .u8 0) 1 1 Tryz.underlying41 hi hz0 hz1 hz2 rfl (by decide) _ _ _ rfl (HR.out.alloc _) ⟨W.heap.size, 0, none⟩ 1 1 [.int .u8 x] rfl rfl (cell_one_new _ _ _) (by simp [Value.oneCell']) (by simp [maxLen]; omega) (by omega) (by have := HB.out.size; simp; omega) ?_; intro v' w1 hown' hgrow _; obtain ⟨g', cap', rfl⟩ := ownsRow_succ hown'; have hu1 := (HU.out.alloc _).kept hgrow (HU.out.not_row (by decide) HR.out); obtain ⟨hv1, hv2, hr2, hk2, hb2⟩ := HV.out.appended (by decide) HR.out HB.out.size (Nat.le_refl _) hown' hgrow; have hc1 := hv1.cell; have hf1 := hv1.frozen)
      refine ⟨hk2.from _, ?_, ⟨_, hv2, by simpa using hr2, trivial⟩, ⟨_, hu1.kept (grownBy_setCell' w1 _ _) (by simp; try omega)⟩, HB.out.trans hb2⟩
      exact (hu1.kept (grownBy_setCell' w1 _ _) (by simp; try omega)).trans HU.out.symm
    · rintro D xs W hD rfl ⟨⟨v, hv, hrow, _⟩, ⟨u, hu⟩, hB⟩ hK
      have hc := hv.cell
      have hpl := digs_length 20 n
      have HR := Aside0.mk hrow
      have HB := Aside0.mk hB
      have HV := Aside0.mk hv
      have HK := Aside0.mk hK
      clear hu hB hv hrow hK
      gi_wp2_with (gi_at_builtin; refine wpListIn_append_own _ rfl _ _ 41 rfl w.heap.size 5 i0 (.int .u8 0) 1 1 Tryz.underlying41 hi hz0 hz1 hz2 rfl (by decide) _ _ _ rfl (HR.out.alloc _) ⟨W.heap.size, 0, none⟩ 1 1 [.int .u8 45] rfl rfl (cell_one_new _ _ _) (by simp [Value.oneCell']) (by simp [maxLen]; omega) (by omega) (by have := HB.out.size; simp; omega) ?_; intro v' w1 hown' hgrow _; obtain ⟨g', cap', rfl⟩ := ownsRow_succ hown'; obtain ⟨hv1, hv2, hr2, hk2, hb2⟩ := HV.out.appended (by decide) HR.out HB.out.size (Nat.le_refl _) hown' hgrow; have hc1 := hv1.cell; have hf1 := hv1.frozen; have HV2 := Aside0.mk hv2; have HR2 := Aside0.mk hr2; have HK2 := Aside0.mk hk2; have HB2 := Aside0.mk hb2; clear hv2 hr2 hk2 hb2 hown' hgrow)
      all_goals (
        refine ⟨trivial, rfl, ?_⟩
        first
        | have H3 : W.ownsRow w.heap.size 5 1 v (putRev a).length ((putRev a).map (Value.int .u8)) := by
            rw [putRev_nonneg a (by assumption), ← hn.out]
            simpa using HR.out
          have V3 := HV.out
          have D3 := HK.out
          have B3 := HB.out
        | have H3 : (w1.setCell ⟨w.heap.size, 0, none⟩ (.slice (some ⟨g', 0, none⟩) ((digs 20 n).length + 1) cap')).ownsRow w.heap.size 5 1 (.slice (some ⟨g', 0, none⟩) ((digs 20 n).length + 1) cap') (putRev a).length ((putRev a).map (Value.int .u8)) := by
            rw [putRev_neg a (by assumption), ← hn.out]
            simpa using HR2.out
          have V3 := HV2.out
          have D3 := HK2.out.same _ _ HK.out rfl
          have B3 := HB.out.trans HB2.out
        have R1 := reverse_own _ (putRev a) (putRev_short a) w.heap.size _ H3 w rfl B3
        refine CallsIn.mono R1 ?_
        rintro e w2 ⟨rfl, hr4, hb4, hk4⟩
        have V4 := (hk4.2 _ V3.lt (fun e => V3.not_row (by decide) H3 e.symm)).trans V3
        have D4 := (hk4.2 _ (Array.getElem?_eq_some_iff.1 D3).1 (ownsRow_not_defer H3 D3)).trans D3
        have hc4 := Boxed.cell V4
        have hcv := own_string (P := Tryz.prog) (xs := (putRev a).reverse) Tryz.underlying41 Tryz.underlying5 Tryz.underlying9 hr4
        have HD4 := Aside0.mk D4
        have HB4 := Aside0.mk hb4
        clear hk4 hr4 hb4 V4 D4 D3 V3 H3 B3 hc hpl
        gi_wp2
        refine ⟨by simp, .inl ⟨_, _, rfl, run_takeDeferred HD4.out, ?_⟩⟩
        exact ⟨_, results_tmp rfl _ _ _, rfl, HB4.out.trans (belowK_b (w := w) (Nat.le_refl _) w2 D _ _ (by simp at hD; omega) HD4.out rfl rfl)⟩)
    · intro D c pre W _ _ h _
      exact h.elim
    · rintro pre A B ⟨⟨v, hv, hr, _⟩, ⟨u, hu⟩, hb⟩ ⟨z, rfl⟩
      have hg := grownBy_setCell' A (w.heap.size + 1) z
      exact ⟨⟨v, hv.kept hg (by simp; try omega), hr.kept hg (.inr (hu.not_row (by decide) hr).symm), trivial⟩, ⟨_, hu.set z⟩, hb.setCell (by simp) _⟩)
theorem number_Put.calls (a0 : Int) (r : ByteArray) (w : World) (h : number_Put.f a0 = some r) :
    Calls Tryz.prog 59 #[.int .i64 a0] w fun e w' => e = .returned (.string r) ∧ Below w.heap.size w w' := by
  unfold number_Put.f at h
  by_cases c : isI64 a0
  · rw [if_pos c] at h
    cases h
    exact callsIn_wide.1 (put_in a0 c w)
  · rw [if_neg c] at h
    cases h
end Go.Proofs.YtkjnbfjbdlcehaaGreatDoor.P
