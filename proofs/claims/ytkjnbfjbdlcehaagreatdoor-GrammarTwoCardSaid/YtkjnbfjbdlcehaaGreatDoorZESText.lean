/- Words for texts that are joined: a number's text, a row of texts of one's own. -/
import Derived.Test.YtkjnbfjbdlcehaaGreatDoorKH
import Derived.Test.YtkjnbfjbdlcehaaGreatDoorEPut
import Derived.Test.YtkjnbfjbdlcehaaGreatDoorShelfP
import Derived.RangeFuncBox
import Derived.LoopN
import Derived.Test.YtkjnbfjbdlcehaaGreatDoorZESCheck
import Derived.Test.YtkjnbfjbdlcehaaGreatDoorPx1
namespace Go.Proofs.YtkjnbfjbdlcehaaGreatDoor.P
open Go.RowKit Go.Proofs.YtkjnbfjbdlcehaaGreatDoorW.PrintWords Go.Proofs.YtkjnbfjbdlcehaaGreatDoorW.PrintLast Go.Proofs.YtkjnbfjbdlcehaaGreatDoorW.PrintMore
set_option linter.unusedVariables false
set_option linter.unusedSimpArgs false
def putStr5 (a : Int) : ByteArray := strOfNums (putRev a).reverse
def joinB5 (xs : List ByteArray) : ByteArray := ⟨(Lib.join (xs.map (·.data.toList)) [32]).toArray⟩
theorem put5_at (a : Int) (ha : isI64 a) (w : World) : Calls Tryz.prog 59 #[.int .i64 a] w fun e w' => e = .returned (.string (putStr5 a)) ∧ Below w.heap.size w w' := callsIn_wide.1 (put_in a ha w)
theorem toList5_len' (s : ByteArray) : s.data.toList.length = s.size := rfl
theorem putStr5_size (a : Int) : (putStr5 a).size ≤ 21 := by
  have h := digs_length 20 a.natAbs
  have : (putStr5 a).size = (putRev a).length := by
    rw [← toList5_len', putStr5, strOfNums]
    simp
  rw [this]
  unfold putRev
  split <;> simp <;> omega
theorem infoS5 : (Tryz.prog.info? 9).map (fun i => (i.zero, i.size, i.bytes)) = some (some (.string ⟨#[]⟩), 1, 16) := by kernel_rfl
theorem own6_below_row {W w' : World} {base : Nat} {e : TypeId} {size n : Nat} {v : Value} {xs : List Value} (h : W.ownsRow base e size v n xs) (hb : Below W.heap.size W w') : w'.ownsRow base e size v n xs := by
  refine own_move h (fun k hk => ?_)
  obtain ⟨cells, hc⟩ := own_typed h k hk
  exact hb.block k (Array.getElem?_eq_some_iff.1 hc).1
theorem join_len (xs : List (List UInt8)) : (Lib.join xs [32]).length ≤ (xs.map (fun x => x.length + 1)).sum := by
  induction xs with
  | nil => simp [Lib.join]
  | cons x r ih =>
    cases r with
    | nil => simp [Lib.join, List.intercalate, List.intersperse]
    | cons y r =>
      have e : Lib.join (x :: y :: r) [32] = x ++ [32] ++ Lib.join (y :: r) [32] := by simp [Lib.join, List.intercalate, List.intersperse]
      rw [e, List.map_cons, List.sum_cons, List.length_append, List.length_append]
      simp only [List.length_cons, List.length_nil] at ih ⊢
      omega
theorem sum_le (l : List ByteArray) (m : Nat) (h : ∀ x ∈ l, x.size ≤ m) : ((l.map (·.data.toList)).map (fun x => x.length + 1)).sum ≤ l.length * (m + 1) := by
  induction l with
  | nil => simp
  | cons x r ih =>
    have h1 := ih (fun y hy => h y (List.mem_cons_of_mem _ hy))
    have h2 := h x List.mem_cons_self
    have h3 := toList5_len' x
    simp only [List.map_cons, List.sum_cons, List.length_cons, Nat.add_mul, Nat.one_mul] at *
    omega
theorem join5_own (base g c : Nat) (xs : List ByteArray) (W : World) (hown : W.ownsRow base 9 1 (.slice (some ⟨g, 0, none⟩) xs.length c) xs.length (xs.map Value.string)) (hN : xs.length ≤ 140737488355328) (hl : (Lib.join (xs.map (·.data.toList)) [32]).length ≤ 140737488355328) :
    Calls Tryz.prog 37 #[.slice (some ⟨g, 0, none⟩) xs.length c, .string ⟨#[32]⟩] W fun e w' => e = .returned (.string (joinB5 xs)) ∧ Below W.heap.size W w' := by
  rcases hown.2 with ⟨h, _⟩ | ⟨g', cap, cur, h, hb, hh, hn, hm, hs, ht⟩
  · cases h
  · simp only [Value.slice.injEq, Option.some.injEq, Addr.mk.injEq, and_true, true_and] at h
    obtain ⟨rfl, rfl⟩ := h
    refine Tryz.strings_Join g 0 c xs ⟨#[32]⟩ W ?_ (blk_lt hh) hN hn hl
    intro j x hx
    have hj : j < xs.length := (List.getElem?_eq_some_iff.1 hx).1
    have := hown.cellAt j (by omega)
    rw [Nat.zero_add, this, List.getElem?_map, hx]
    rfl
end Go.Proofs.YtkjnbfjbdlcehaaGreatDoor.P

/- state.Text: a state's text. -/
namespace Go.Proofs.YtkjnbfjbdlcehaaGreatDoor.P
open Go.RowKit Go.Proofs.YtkjnbfjbdlcehaaGreatDoorW.PrintWords Go.Proofs.YtkjnbfjbdlcehaaGreatDoorW.PrintLast Go.Proofs.YtkjnbfjbdlcehaaGreatDoorW.PrintMore
set_option linter.unusedVariables false
set_option linter.unusedSimpArgs false
def wordB (t : Int) : ByteArray := if t = 1 then ⟨#[99, 111, 117, 110, 116, 101, 114]⟩ else if t = 2 then ⟨#[115, 101, 116]⟩ else if t = 3 then ⟨#[109, 97, 112]⟩ else if t = 4 then ⟨#[113, 117, 101, 117, 101]⟩ else ⟨#[101, 115, 99, 114, 111, 119]⟩
def numsOf (t n : Int) (l : List Int) : List Int := if t = 1 ∨ t = 5 then [n] else l
def okText (n : Int) (l : List Int) : Bool := decide (isI64 n) && l.all (fun x => decide (isI64 x)) && decide (l.length ≤ 1000000000)
def state_Text.f (t n : Int) (l : List Int) : Option (ByteArray × Int) :=
  if okText n l = true then (state_Check.f t n l).bind fun e => if e = 0 then some (joinB5 (wordB t :: (numsOf t n l).map putStr5), 0) else some (⟨#[]⟩, e) else none
attribute [local irreducible] putStr5
theorem word_at (t : Int) (h : 1 ≤ t ∧ t ≤ 5) : ∃ fn : Value, ∀ w' : World, (Instr.index 98 (.agg kindsA) (.int .i64 (t - 1))).run Tryz.prog w' = .ok (.agg #[.string (wordB t), fn]) w' := by
  have h5 : t = 1 ∨ t = 2 ∨ t = 3 ∨ t = 4 ∨ t = 5 := by omega
  rcases h5 with rfl | rfl | rfl | rfl | rfl
  · exact ⟨.func (.func 88) #[] #[], fun _ => by kernel_rfl⟩
  · exact ⟨.func (.func 89) #[] #[], fun _ => by kernel_rfl⟩
  · exact ⟨.func (.func 90) #[] #[], fun _ => by kernel_rfl⟩
  · exact ⟨.func (.func 91) #[] #[], fun _ => by kernel_rfl⟩
  · exact ⟨.func (.func 92) #[] #[], fun _ => by kernel_rfl⟩
theorem word_size (t : Int) : (wordB t).size ≤ 8 := by
  unfold wordB
  split
  · decide
  · split
    · decide
    · split
      · decide
      · split
        · decide
        · decide
def SCells (t n : Int) (A : Option Addr) (c : Nat) (l : List Int) : Array Value := #[.int .i64 t, .int .i64 n, .slice A l.length c]
set_option maxHeartbeats 4000000 in
set_option maxRecDepth 100000 in
theorem text_yes (t n : Int) (A : Option Addr) (c : Nat) (l : List Int) (w : World) (hr : Kd.C (Kd.int .i64) w A l.length l) (hc : l.length ≤ c) (ht : 1 ≤ t ∧ t ≤ 5) (hn : isI64 n) (hl : ∀ x ∈ l, isI64 x) (hlen : l.length ≤ 1000000000) (hck : state_Check.f t n l = some 0) :
    Calls Tryz.prog 35 #[.agg #[.int .i64 t, .int .i64 n, .slice A l.length c]] w fun e w' => e = .returned (.tuple #[.string (joinB5 (wordB t :: (numsOf t n l).map putStr5)), .int .i64 0]) ∧ Below w.heap.size w w' := by
  obtain ⟨i0, hi0, hz0, hz1, hz2⟩ := info_parts infoS5
  have hu27 := Tryz.underlying36
  obtain ⟨fn, hix⟩ := word_at t ht
  have hws := word_size t
  have HC := fun W (hB : Below w.heap.size w W) => state_Check.calls t n A c l 0 W (Kd.C_below hr hB) hc hck
  have hsb : state_single.f t = some (decide (t = 1 ∨ t = 5)) := by
    unfold state_single.f
    by_cases h1 : t = 1
    · rw [if_pos h1]
      simp [h1]
    · rw [if_neg h1]
      by_cases h5 : t = 5
      · subst h5
        rfl
      · simp [h1, h5]
  obtain ⟨sb, hsd⟩ : ∃ sb : Bool, sb = decide (t = 1 ∨ t = 5) := ⟨_, rfl⟩
  rw [← hsd] at hsb
  have HSD := Aside0.mk hsd
  have HS := fun W => state_single.calls t _ W hsb
  have esub : IntKind.i64.wrap (t - 1) = t - 1 := IntWalk.i64_in _ (by omega)
  obtain ⟨L, hL⟩ : ∃ L, L = numsOf t n l := ⟨_, rfl⟩
  have hLi : ∀ x ∈ L, isI64 x := by
    rw [hL]
    unfold numsOf
    split
    · intro x hx
      rw [List.mem_singleton] at hx
      rw [hx]
      exact hn
    · exact hl
  have hLl : L.length ≤ 1000000000 := by
    rw [hL]
    unfold numsOf
    split
    · simp
    · exact hlen
  rw [← hL]
  have HL := Aside0.mk hL
  have HLI := Aside0.mk hLi
  have HIX := Aside0.mk hix
  have ESUB := Aside0.mk esub
  have HCK := Aside0.mk HC
  have HSI := Aside0.mk HS
  have HR := Aside0.mk hr
  have HCC := Aside0.mk hc
  generalize wordB t = wd at *
  have hp1 : 0 ≤ t - 1 := by omega
  have hp2 : t - 1 < 5 := by omega
  clear hsd hsb HS HC hix esub hL hLi hck hl hlen hr hc ht
  go_enter Tryz.func35, Tryz.ntmps35
  go_wp2_with fail
  refine (HCK.out _ ((Below.refl _ w).alloc (Nat.le_refl _) _)).mono ?_
  rintro e w2 ⟨rfl, hb2⟩
  have hz := blk_below (blk_new w _) hb2
  have c0 := (blk_cell hz 0).trans rfl
  have c1 := (blk_cell hz 1).trans rfl
  have c2 := (blk_cell hz 2).trans rfl
  have HZ := Aside0.mk hz
  have HB2 := Aside0.mk (((Below.refl _ w).alloc (Nat.le_refl _) _).trans (hb2.mono (by simp)))
  clear hz hb2
  go_wp2_with fail
  refine (HSI.out _).mono ?_
  rintro e w3 ⟨rfl, hd⟩
  have hb3 := hd.below
  have hz := blk_below HZ.out hb3
  have HZ3 := Aside0.mk hz
  have HB3 := Aside0.mk (HB2.out.trans (hb3.mono HB2.out.size))
  clear c0 c1 c2 hd hb3
  have c0 := (blk_cell hz 0).trans rfl
  have c1 := (blk_cell hz 1).trans rfl
  have c2 := (blk_cell hz 2).trans rfl
  clear hz
  go_upto_if 18 with (fail)
  go_cut [5] (fun v5 wc => ∃ (A2 : Option Addr) (c2 : Nat), v5 = .slice A2 L.length c2 ∧ Aside0 (L.length ≤ c2) ∧ Aside0 (Kd.C (Kd.int .i64) wc A2 L.length L) ∧ Aside0 (wc.heap[w.heap.size]? = some (.cells #[.int .i64 t, .int .i64 n, .slice A l.length c] 36)) ∧ Aside0 (Below w.heap.size w wc))
  case first =>
    cases sb with
    | true =>
      have EE := Aside0.mk (show L = [n] by rw [HL.out]; unfold numsOf; rw [if_pos (of_decide_eq_true HSD.out.symm)])
      go_wp2
      go_meet
      case rel =>
        have e1 := EE.out
        subst e1
        have hb := blk_new w3 (.cells #[.int .i64 n] 3)
        refine ⟨_, _, rfl, ⟨Nat.le_refl _⟩, ⟨Kd.C_of_reads (enc := Value.int .i64) (d := (0 : Int)) (h1 := fun _ => rfl) ⟨rfl, by simp, fun _ => ⟨_, rfl, fun j hj => ?_⟩⟩⟩, ⟨blk_below HZ3.out ((Below.refl _ _).alloc (Nat.le_refl _) _)⟩, ⟨HB3.out.alloc HB3.out.size _⟩⟩
        match j with
        | 0 => exact (blk_cell hb 0).trans rfl
        | j + 1 => exact absurd hj (by simp)
    | false =>
      have EE := Aside0.mk (show L = l by rw [HL.out]; unfold numsOf; rw [if_neg (of_decide_eq_false HSD.out.symm)])
      go_wp2
      go_meet
      case rel =>
        have e1 := EE.out
        subst e1
        exact ⟨A, c, rfl, HCC, ⟨Kd.C_below HR.out HB3.out⟩, HZ3, HB3⟩
  case rest =>
    obtain ⟨A2, c2, rfl, HC2, HK2, HZ2, HB2⟩ := hcut
    go_wp2_with fail
    refine wp_onlyQ fun K hK => ?_
    refine wp_region_held_drew (S := (fun w' => w'.heap[w.heap.size]? = some (.cells #[.int .i64 t, .int .i64 n, .slice A l.length c] 36) ∧ Below wc.heap.size wc w')) (by kernel_rfl) ?_ (fun hHeld => ?_)
    · exact ⟨HZ2.out, below_drew (Below.refl _ _)⟩
    refine wpAnyH_take (i := 1) (v := .pointer (some ⟨w.heap.size, 0, none⟩)) rfl (by kernel_rfl) (by kernel_rfl) (by kernel_rfl) (fun _ _ _ h => h) (Or.inl ⟨by rfl, fun w' hSw => ?_⟩) (by assumption) ?_
    · go_simp
    simp only [Act.put, List.getElem_toArray, List.getElem_cons_zero, List.getElem_cons_succ, List.setIfInBounds_toArray, List.set_cons_zero, List.set_cons_succ]
    refine wpAnyH_take (i := 2) (v := .int .i64 t) rfl (by kernel_rfl) (by kernel_rfl) (by kernel_rfl) (fun _ _ _ h => h) (Or.inl ⟨by rfl, fun w' hSw => ?_⟩) (by assumption) ?_
    · (obtain ⟨hs1, hs2⟩ := hSw; have c0 := (blk_cell hs1 0).trans rfl; have c1 := (blk_cell hs1 1).trans rfl; have c2 := (blk_cell hs1 2).trans rfl; go_simp)
    simp only [Act.put, List.getElem_toArray, List.getElem_cons_zero, List.getElem_cons_succ, List.setIfInBounds_toArray, List.set_cons_zero, List.set_cons_succ]
    refine wpAnyH_take (i := 3) (v := .int .i64 (t - 1)) rfl (by kernel_rfl) (by kernel_rfl) (by kernel_rfl) (fun _ _ _ h => h) (Or.inl ⟨by rfl, fun w' hSw => ?_⟩) (by assumption) ?_
    · (have hx := ESUB.out; go_simp)
    simp only [Act.put, List.getElem_toArray, List.getElem_cons_zero, List.getElem_cons_succ, List.setIfInBounds_toArray, List.set_cons_zero, List.set_cons_succ]
    refine wpAnyH_ready (rs := [0]) (by kernel_rfl) (by simp) ?_
    refine AllReadyH.cons (o := _) rfl (fun K1 hK1 => ?_) AllReadyH.nil
    go_wp2_with (go_at_call 58; (refine (kinds5_calls _).mono ?_); rintro e w2 ⟨rfl, hb2⟩)
    refine hK1.out _ _ ?_ (fun hHeld => ?_)
    · (obtain ⟨hs1, hs2⟩ := hHeld; exact ⟨blk_below hs1 hb2, hs2.trans (hb2.mono hs2.size)⟩)
    clear hK1 K1
    try simp only [Act.put, List.getElem_toArray, List.getElem_cons_zero, List.getElem_cons_succ, List.setIfInBounds_toArray, List.set_cons_zero, List.set_cons_succ]
    have HX := Aside0.mk hHeld.2
    refine wpAnyH_take (i := 4) (v := .agg #[.string wd, fn]) rfl (by kernel_rfl) (by kernel_rfl) (by kernel_rfl) (fun _ _ _ h => h) (Or.inl ⟨by rfl, fun w' hSw => ?_⟩) (by assumption) ?_
    · (have hx := HIX.out; go_simp)
    simp only [Act.put, List.getElem_toArray, List.getElem_cons_zero, List.getElem_cons_succ, List.setIfInBounds_toArray, List.set_cons_zero, List.set_cons_succ]
    refine wpAnyH_take (i := 5) (v := .string wd) rfl (by kernel_rfl) (by kernel_rfl) (by kernel_rfl) (fun _ _ _ h => h) (Or.inl ⟨by rfl, fun w' hSw => ?_⟩) (by assumption) ?_
    · (have hx := fun w' => (show (Instr.field 97 (.agg #[.string wd, fn]) 0).run Tryz.prog w' = .ok (.string wd) w' by kernel_rfl); go_simp)
    simp only [Act.put, List.getElem_toArray, List.getElem_cons_zero, List.getElem_cons_succ, List.setIfInBounds_toArray, List.set_cons_zero, List.set_cons_succ]
    refine wpAnyH_ready (rs := [6]) (by kernel_rfl) (by simp) ?_
    refine AllReadyH.cons (o := _) rfl (fun K1 hK1 => ?_) AllReadyH.nil
    go_simp
    refine hK1.out _ _ ?_ (fun hHeld => ?_)
    · (obtain ⟨hs1, hs2⟩ := hHeld; exact ⟨blk_below hs1 ((Below.refl _ _).alloc (Nat.le_refl _) _), hs2.alloc hs2.size _⟩)
    clear hK1 K1
    try simp only [Act.put, List.getElem_toArray, List.getElem_cons_zero, List.getElem_cons_succ, List.setIfInBounds_toArray, List.set_cons_zero, List.set_cons_succ]
    refine wpAnyH_take (i := 7) (v := .slice (some ⟨w2.heap.size, 0, none⟩) 1 1) rfl (by kernel_rfl) (by kernel_rfl) (by kernel_rfl) (fun _ _ _ h => h) (Or.inl ⟨by rfl, fun w' hSw => ?_⟩) (by assumption) ?_
    · go_simp
    simp only [Act.put, List.getElem_toArray, List.getElem_cons_zero, List.getElem_cons_succ, List.setIfInBounds_toArray, List.set_cons_zero, List.set_cons_succ]
    refine wpAnyH_done (by kernel_rfl) ?_ _
    show K _ _
    refine hK _ _ ?_
    clear hK K
    clear hHeld
    have HO0 : (w2.alloc (.cells #[.string wd] 9)).ownsRow w2.heap.size 9 1 (.slice (some ⟨w2.heap.size, 0, none⟩) 1 1) 1 [.string wd] := ⟨rfl, .inr ⟨w2.heap.size, 1, #[.string wd], rfl, Nat.le_refl _, blk_new _ _, by decide, by decide, rfl, rfl⟩⟩
    have HO0 := Aside0.mk HO0
    have HB0 := Aside0.mk (show Below w2.heap.size w2 (w2.alloc (.cells #[.string wd] 9)) from (Below.refl _ _).alloc (Nat.le_refl _) _)
    generalize w2.alloc (.cells #[.string wd] 9) = W0 at HO0 HB0 ⊢
    go_wp2_with fail
    have HLL := Aside0.mk hLl
    go_loopg [6, 31] L.length (fun kq v6 v31 wr => ∃ (i g cc : Nat), v6 = .slice (some ⟨g, 0, none⟩) (i + 1) cc ∧ v31 = .int .i64 (i : Int) ∧ Aside0 (i + kq = L.length) ∧ Aside0 (wr.ownsRow w2.heap.size 9 1 (.slice (some ⟨g, 0, none⟩) (i + 1) cc) (i + 1) ((wd :: (L.take i).map putStr5).map Value.string)) ∧ Aside0 (Below w2.heap.size w2 wr))
    case atStart => exact ⟨0, _, _, rfl, rfl, ⟨by omega⟩, HO0, HB0⟩
    case round =>
      obtain ⟨i, g, cc, rfl, rfl, HI, HO, HB⟩ := hrel
      by_cases c1 : i < L.length
      · have c1n : decide (i < L.length) = true := decide_eq_true c1
        have c1b : decide ((i : Int) < (L.length : Int)) = true := decide_eq_true (by omega)
        obtain ⟨ad, rfl, hcell⟩ := Kd.at_int (Kd.C_below (Kd.C_below HK2.out HX.out) HB.out) (i : Int) (by omega) (by omega)
        have hx : rd L (i : Int) = L[i] := by
          unfold rd
          rw [Int.toNat_natCast]
          simp [List.getD, c1]
        have hxi : isI64 (rd L (i : Int)) := by rw [hx]; exact HLI.out _ (List.getElem_mem c1)
        have HPX := Aside0.mk (put5_at _ hxi)
        have hpl := putStr5_size (rd L (i : Int))
        have hts : (wd :: (L.take i).map putStr5).map Value.string ++ [.string (putStr5 (rd L (i : Int)))] = (wd :: (L.take (i + 1)).map putStr5).map Value.string := by
          rw [List.take_succ_eq_append_getElem c1, hx]
          simp only [List.map_append, List.map_cons, List.map_nil, List.cons_append]
        have HTS := Aside0.mk hts
        have ewi : wrap64 ((i : Int) + 1) = ((i + 1 : Nat) : Int) := by unfold wrap64; omega
        have HEW := Aside0.mk ewi
        have p1 : 0 ≤ (i : Int) := by omega
        have p2 : (i : Int) < (L.length : Int) := by omega
        obtain ⟨k1, rfl⟩ : ∃ k1, gk = k1 + 1 := ⟨gk - 1, by have := HI.out; omega⟩
        clear hx hxi hts ewi hpl
        rw [Int.toNat_natCast] at hcell
        generalize rd L (i : Int) = x at hcell HPX HTS
        replace p1 := eq_true p1
        replace p2 := eq_true p2
        have C1 := Aside0.mk c1
        clear c1
        go_wp2_with fail
        refine (HPX.out _).mono ?_
        rintro e w5 ⟨rfl, hb5⟩
        have HO5 := Aside0.mk (own6_below_row HO.out hb5)
        have HB5 := Aside0.mk (HB.out.trans (hb5.mono HB.out.size))
        clear hb5 hcell
        have hn63 : i + 1 + 1 ≤ maxLen := by have := C1.out; unfold maxLen; omega
        have hn47 : (i + 1 + 1) * 16 ≤ 140737488355328 := by have := C1.out; omega
        have hbs : w2.heap.size ≤ (w5.alloc (.cells #[.string (putStr5 x)] 9)).heap.size := by have := HB5.out.size; simp; omega
        have HN := Aside0.mk (And.intro hn63 (And.intro hn47 hbs))
        clear hn63 hn47 hbs
        go_wp2_with (at_builtin; refine wpList_append_own_at _ rfl _ _ 50 rfl w2.heap.size 9 i0 (.string ⟨#[]⟩) 1 16 Tryz.underlying50 hi0 hz0 hz1 hz2 rfl (by decide) (.slice (some ⟨g, 0, none⟩) (i + 1) cc) (i + 1) _ rfl (HO5.out.alloc _) ⟨w5.heap.size, 0, none⟩ 1 1 [.string (putStr5 x)] rfl rfl (cell_one_new _ _ _) (by simp [Value.oneCell']) HN.out.1 HN.out.2.1 HN.out.2.2 ?_; intro v' w6 hown' hgrow _ hat; obtain ⟨g2, cap2, rfl⟩ := ownsRow_succ hown')
        rw [HTS.out] at hown'
        have hgB : w2.heap.size ≤ g := own_base HO5.out _ rfl
        have HO6 := Aside0.mk hown'
        have HB6 := Aside0.mk ((HB5.out.alloc HB5.out.size _).grown hgrow (by have := HB5.out.size; simp; omega) (fun k hk => by simp only [Value.ownBlock, Option.some.injEq] at hk; omega))
        clear hown' hgrow hat hgB HN
        go_wp2
        rw [HEW.out]
        go_roundg k1
        case measure => omega
        case rel => exact ⟨i + 1, _, _, rfl, rfl, ⟨by have := HI.out; omega⟩, HO6, HB6⟩
      · have c1n : decide (i < L.length) = false := decide_eq_false c1
        have c1b : decide ((i : Int) < (L.length : Int)) = false := decide_eq_false (by omega)
        have hil : i = L.length := by have := HI.out; omega
        have hO := HO.out
        rw [List.take_of_length_le (by omega)] at hO
        have hxl : (wd :: L.map putStr5).length = i + 1 := by simp; omega
        have HXL := Aside0.mk hxl
        have HJ := Aside0.mk (join5_own w2.heap.size g cc (wd :: L.map putStr5) wr (by rw [hxl]; exact hO) (by rw [hxl]; omega) (Nat.le_trans (join_len _) (Nat.le_trans (sum_le _ 21 (by intro y hy; rcases List.mem_cons.1 hy with rfl | hy; omega; obtain ⟨z, _, rfl⟩ := List.mem_map.1 hy; exact putStr5_size z)) (by rw [hxl]; omega))))
        clear hO hil c1 hxl
        rw [HXL.out] at HJ
        go_wp2_with fail
        refine HJ.out.mono ?_
        rintro e w9 ⟨rfl, hb9⟩
        have HB9 := Aside0.mk (HB.out.trans (hb9.mono HB.out.size))
        clear hb9
        go_wp2
        refine bodyPost_ret (results_tmp2 rfl _ _ _) rfl ?_
        exact ⟨rfl, HB2.out.trans ((HX.out.trans (HB9.out.mono HX.out.size)).mono HB2.out.size)⟩
set_option maxHeartbeats 4000000 in
set_option maxRecDepth 100000 in
theorem text5_no (t n : Int) (A : Option Addr) (c : Nat) (l : List Int) (e0 : Int) (he : e0 ≠ 0) (w : World) (hr : Kd.C (Kd.int .i64) w A l.length l) (hc : l.length ≤ c) (hck : state_Check.f t n l = some e0) :
    Calls Tryz.prog 35 #[.agg #[.int .i64 t, .int .i64 n, .slice A l.length c]] w fun e w' => e = .returned (.tuple #[.string ⟨#[]⟩, .int .i64 e0]) ∧ Below w.heap.size w w' := by
  have HC := Aside0.mk (fun W (hB : Below w.heap.size w W) => state_Check.calls t n A c l e0 W (Kd.C_below hr hB) hc hck)
  have h1 : (e0 != 0) = true := bne_iff_ne.2 he
  have h2 : (e0 == 0) = false := beq_eq_false_iff_ne.2 he
  clear hr hc hck he
  go_enter Tryz.func35, Tryz.ntmps35
  go_wp2_with fail
  refine (HC.out _ ((Below.refl _ w).alloc (Nat.le_refl _) _)).mono ?_
  rintro e w2 ⟨rfl, hb2⟩
  have HB2 := Aside0.mk (((Below.refl _ w).alloc (Nat.le_refl _) _).trans (hb2.mono (by simp)))
  clear hb2
  go_wp2
  refine bodyPost_ret (results_tmp2 rfl _ _ _) rfl ?_
  exact ⟨rfl, HB2.out⟩
theorem check_five {t n : Int} {l : List Int} {e : Int} (h : state_Check.f t n l = some e) (he : e = 0) : 1 ≤ t ∧ t ≤ 5 := by
  unfold state_Check.f at h
  by_cases c : 1 ≤ t ∧ t ≤ 5
  · exact c
  · rw [if_neg c] at h
    have := Option.some.inj h
    omega
theorem state_Text.calls (a0_0 : Int) (a0_1 : Int) (A0_2 : Option Addr) (c0_2 : Nat) (l0_2 : List Int) (r1 : ByteArray) (r2 : Int) (w : World) (hr0_2 : Kd.C (Kd.int .i64) w A0_2 l0_2.length l0_2) (hc0_2 : l0_2.length ≤ c0_2) (h : state_Text.f a0_0 a0_1 l0_2 = some (r1, r2)) :
    Calls Tryz.prog 35 #[.agg #[.int .i64 a0_0, .int .i64 a0_1, .slice A0_2 l0_2.length c0_2]] w fun e w' => e = .returned (.tuple #[.string r1, .int .i64 r2]) ∧ Below w.heap.size w w' := by
  unfold state_Text.f at h
  by_cases hI : okText a0_1 l0_2 = true
  · rw [if_pos hI] at h
    obtain ⟨e0, hc0, h⟩ := Option.bind_eq_some_iff.1 h
    unfold okText at hI
    simp only [Bool.and_eq_true, decide_eq_true_eq, List.all_eq_true] at hI
    obtain ⟨⟨hn, hl⟩, hlen⟩ := hI
    by_cases he : e0 = 0
    · rw [if_pos he] at h
      simp only [Option.some.injEq, Prod.mk.injEq] at h
      obtain ⟨rfl, rfl⟩ := h
      exact text_yes a0_0 a0_1 A0_2 c0_2 l0_2 w hr0_2 hc0_2 (check_five hc0 he) hn hl hlen (he ▸ hc0)
    · rw [if_neg he] at h
      simp only [Option.some.injEq, Prod.mk.injEq] at h
      obtain ⟨rfl, rfl⟩ := h
      exact text5_no a0_0 a0_1 A0_2 c0_2 l0_2 _ he w hr0_2 hc0_2 hc0
  · rw [if_neg hI] at h
    cases h
end Go.Proofs.YtkjnbfjbdlcehaaGreatDoor.P
