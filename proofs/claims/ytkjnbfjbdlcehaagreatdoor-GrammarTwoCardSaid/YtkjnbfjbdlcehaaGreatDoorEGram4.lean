/- grammar.reader: a line's words; fail, at, text, name, plain. -/
import Derived.Test.YtkjnbfjbdlcehaaGreatDoorECheck03
import Derived.Test.YtkjnbfjbdlcehaaGreatDoorKH
import Derived.WalkKit
import Derived.OpenShut
import Derived.Deep.QuietTactic
import Derived.BigQuiet
import Derived.Test.YtkjnbfjbdlcehaaGreatDoorKC
import Derived.Test.YtkjnbfjbdlcehaaGreatDoorERead
import Derived.Test.YtkjnbfjbdlcehaaGreatDoorZESRead
import Derived.Test.YtkjnbfjbdlcehaaGreatDoorShelfP
import Derived.StringKeys
import Derived.WalkSpells
namespace Go.Proofs.YtkjnbfjbdlcehaaGreatDoor.P
open Go.RowKit Go.Proofs.YtkjnbfjbdlcehaaGreatDoorW.PrintWords Go.Proofs.YtkjnbfjbdlcehaaGreatDoorW.PrintLast Go.Proofs.YtkjnbfjbdlcehaaGreatDoorW.PrintMore
set_option linter.unusedVariables false
set_option linter.unusedSimpArgs false
abbrev Wd := S128
abbrev Ln := S84
/-- What fail throws. -/
def thrown (e at_ : Int) : List PanicEntry := [{ v := .iface 80 (.agg #[.int .i64 e, .int .i64 at_]), recovered := false }]
theorem fail_calls (e at_ : Int) (w : World) : Calls Tryz.prog 78 #[.int .i64 e, .int .i64 at_] w fun x w' => x = .panicked (thrown e at_) ∧ w' = w := by
  go_enter Tryz.func78, Tryz.ntmps78
  go_wp2
  exact ⟨rfl, rfl, rfl⟩
/-- Where a word begins; behind the last one: where the line ends. -/
def atW (ws : List Wd) (i : Nat) : Int := match ws[i]? with | some x => x.f1 | none => match ws.getLast? with | some x => x.f1 + x.f0.size | none => 0
theorem at_in (p : Nat) (A : Option Addr) (c : Nat) (ws : List Wd) (i : Nat) (hi : i < ws.length) (hl : ws.length ≤ 140737488355328) (w : World) (hq : w.cell? ⟨p, 1, none⟩ = some (.slice A ws.length c)) (hC : Kd.C k128 w A ws.length ws) :
    Calls Tryz.prog 79 #[.pointer (some ⟨p, 0, none⟩), .int .i64 i] w fun e w' => e = .returned (.int .i64 (atW ws i)) ∧ Drawn0 w w' := by
  obtain ⟨ad, rfl, h0, h1⟩ := at_T128 hC (i : Int) (by omega) (by omega)
  simp only [Int.toNat_natCast] at h0 h1
  have hx : rd_T128 ws (i : Int) = ws[i] := by simp [rd_T128, List.getD, hi]
  have hr : atW ws i = ws[i].f1 := by simp [atW, hi]
  rw [hx] at h0 h1
  rw [hr]
  have b0 := decide_eq_true (show ((i : Nat) : Int) < (ws.length : Int) by omega)
  have b1 : (0 : Int) ≤ (i : Int) := by omega
  have b2 : (i : Int) < (ws.length : Int) := by omega
  clear hx hr hC
  go_enter Tryz.func79, Tryz.ntmps79
  go_wp2
  go_ret
  exact ⟨rfl, by repeat (first | exact Drawn0.refl _ | apply Drawn0.step)⟩
theorem at_end (p : Nat) (A : Option Addr) (c : Nat) (ws : List Wd) (i : Nat) (hi : ws.length ≤ i) (hi2 : i ≤ 140737488355328) (hn : 0 < ws.length) (hb : ∀ x ∈ ws, 0 ≤ x.f1 ∧ x.f1 ≤ 140737488355328 ∧ x.f0.size ≤ 140737488355328) (w : World) (hq : w.cell? ⟨p, 1, none⟩ = some (.slice A ws.length c)) (hC : Kd.C k128 w A ws.length ws) :
    Calls Tryz.prog 79 #[.pointer (some ⟨p, 0, none⟩), .int .i64 i] w fun e w' => e = .returned (.int .i64 (atW ws i)) ∧ Below w.heap.size w w' := by
  obtain ⟨j, hj⟩ : ∃ j : Nat, ws.length = j + 1 := ⟨ws.length - 1, by omega⟩
  obtain ⟨ad, rfl, h0, h1⟩ := at_T128 hC (j : Int) (by omega) (by omega)
  simp only [Int.toNat_natCast] at h0 h1
  have hx : rd_T128 ws (j : Int) = ws[j] := by simp [rd_T128, List.getD, show j < ws.length by omega]
  have hl : ws.getLast? = some ws[j] := by
    rw [List.getLast?_eq_getElem?, show ws.length - 1 = j by omega]
    simp [hj]
  have hr : atW ws i = ws[j].f1 + ws[j].f0.size := by
    unfold atW
    rw [List.getElem?_eq_none hi, hl]
  have hm := hb ws[j] (List.getElem_mem _)
  rw [hx] at h0 h1
  rw [hr]
  obtain ⟨x, hxx⟩ : ∃ x, ws[j] = x := ⟨_, rfl⟩
  rw [hxx] at h0 h1 hm ⊢
  obtain ⟨n, hn2⟩ : ∃ n, ws.length = n := ⟨_, rfl⟩
  rw [hn2] at hq hi hj
  have b0n : ¬ i < n := by omega
  have b0 := decide_eq_false (show ¬ ((i : Nat) : Int) < (n : Int) by omega)
  have b1 : (0 : Int) ≤ (j : Int) := by omega
  have b2 : (j : Int) < (n : Int) := by omega
  have b3 : IntKind.i64.wrap ((n : Int) - 1) = (j : Int) := IntWalk.i64_in _ (by omega) |>.trans (by omega)
  have b4 : IntKind.i64.wrap (x.f1 + (x.f0.size : Int)) = x.f1 + (x.f0.size : Int) := IntWalk.i64_in _ (by omega)
  have hbl := World.block_lt_of_cell? w _ hq
  have hbw := World.block_lt_of_cell? w _ h0
  have H0 := Aside0.mk h0
  have H1 := Aside0.mk h1
  have HQ := Aside0.mk hq
  clear hx hr hC hl hxx hm hb hn2 hj hi
  go_enter Tryz.func79, Tryz.ntmps79
  go_wp2_with fail
  refine wp_onlyQ fun K hK => ?_
  refine wp_region_held_drew (S := (fun w' => Below w.heap.size w w')) (by kernel_rfl) ?_ (fun hHeld => ?_)
  · exact (Below.refl _ _).drew
  refine wpAnyH_take (i := 0) (v := .pointer (some ⟨p, 0, none⟩)) rfl (by kernel_rfl) (by kernel_rfl) (by kernel_rfl) (fun _ _ _ h => h) (Or.inl ⟨by rfl, fun w' hSw => ?_⟩) (by assumption) ?_
  · go_simp
  simp only [Act.put, List.getElem_toArray, List.getElem_cons_zero, List.getElem_cons_succ, List.setIfInBounds_toArray, List.set_cons_zero, List.set_cons_succ]
  refine wpAnyH_take (i := 1) (v := .pointer (some ⟨p, 0, none⟩)) rfl (by kernel_rfl) (by kernel_rfl) (by kernel_rfl) (fun _ _ _ h => h) (Or.inl ⟨by rfl, fun w' hSw => ?_⟩) (by assumption) ?_
  · go_simp
  simp only [Act.put, List.getElem_toArray, List.getElem_cons_zero, List.getElem_cons_succ, List.setIfInBounds_toArray, List.set_cons_zero, List.set_cons_succ]
  refine wpAnyH_take (i := 2) (v := .pointer (some ⟨p, 0, none⟩)) rfl (by kernel_rfl) (by kernel_rfl) (by kernel_rfl) (fun _ _ _ h => h) (Or.inl ⟨by rfl, fun w' hSw => ?_⟩) (by assumption) ?_
  · go_simp
  simp only [Act.put, List.getElem_toArray, List.getElem_cons_zero, List.getElem_cons_succ, List.setIfInBounds_toArray, List.set_cons_zero, List.set_cons_succ]
  refine wpAnyH_take (i := 3) (v := .pointer (some ⟨p, 1, none⟩)) rfl (by kernel_rfl) (by kernel_rfl) (by kernel_rfl) (fun _ _ _ h => h) (Or.inl ⟨by rfl, fun w' hSw => ?_⟩) (by assumption) ?_
  · go_simp
  simp only [Act.put, List.getElem_toArray, List.getElem_cons_zero, List.getElem_cons_succ, List.setIfInBounds_toArray, List.set_cons_zero, List.set_cons_succ]
  refine wpAnyH_take (i := 4) (v := .slice (some ad) n c) rfl (by kernel_rfl) (by kernel_rfl) (by kernel_rfl) (fun _ _ _ h => h) (Or.inl ⟨by rfl, fun w' hSw => ?_⟩) (by assumption) ?_
  · (have hs := (hSw.cell hbl).trans HQ.out; go_simp)
  simp only [Act.put, List.getElem_toArray, List.getElem_cons_zero, List.getElem_cons_succ, List.setIfInBounds_toArray, List.set_cons_zero, List.set_cons_succ]
  refine wpAnyH_take (i := 5) (v := .pointer (some ⟨p, 0, none⟩)) rfl (by kernel_rfl) (by kernel_rfl) (by kernel_rfl) (fun _ _ _ h => h) (Or.inl ⟨by rfl, fun w' hSw => ?_⟩) (by assumption) ?_
  · go_simp
  simp only [Act.put, List.getElem_toArray, List.getElem_cons_zero, List.getElem_cons_succ, List.setIfInBounds_toArray, List.set_cons_zero, List.set_cons_succ]
  refine wpAnyH_take (i := 6) (v := .pointer (some ⟨p, 0, none⟩)) rfl (by kernel_rfl) (by kernel_rfl) (by kernel_rfl) (fun _ _ _ h => h) (Or.inl ⟨by rfl, fun w' hSw => ?_⟩) (by assumption) ?_
  · go_simp
  simp only [Act.put, List.getElem_toArray, List.getElem_cons_zero, List.getElem_cons_succ, List.setIfInBounds_toArray, List.set_cons_zero, List.set_cons_succ]
  refine wpAnyH_take (i := 7) (v := .pointer (some ⟨p, 0, none⟩)) rfl (by kernel_rfl) (by kernel_rfl) (by kernel_rfl) (fun _ _ _ h => h) (Or.inl ⟨by rfl, fun w' hSw => ?_⟩) (by assumption) ?_
  · go_simp
  simp only [Act.put, List.getElem_toArray, List.getElem_cons_zero, List.getElem_cons_succ, List.setIfInBounds_toArray, List.set_cons_zero, List.set_cons_succ]
  refine wpAnyH_take (i := 8) (v := .pointer (some ⟨p, 1, none⟩)) rfl (by kernel_rfl) (by kernel_rfl) (by kernel_rfl) (fun _ _ _ h => h) (Or.inl ⟨by rfl, fun w' hSw => ?_⟩) (by assumption) ?_
  · go_simp
  simp only [Act.put, List.getElem_toArray, List.getElem_cons_zero, List.getElem_cons_succ, List.setIfInBounds_toArray, List.set_cons_zero, List.set_cons_succ]
  refine wpAnyH_take (i := 9) (v := .slice (some ad) n c) rfl (by kernel_rfl) (by kernel_rfl) (by kernel_rfl) (fun _ _ _ h => h) (Or.inl ⟨by rfl, fun w' hSw => ?_⟩) (by assumption) ?_
  · (have hs := (hSw.cell hbl).trans HQ.out; go_simp)
  simp only [Act.put, List.getElem_toArray, List.getElem_cons_zero, List.getElem_cons_succ, List.setIfInBounds_toArray, List.set_cons_zero, List.set_cons_succ]
  refine wpAnyH_take (i := 10) (v := .int .i64 (n : Int)) rfl (by kernel_rfl) (by kernel_rfl) (by kernel_rfl) (fun _ _ _ h => h) (Or.inl ⟨by rfl, fun w' hSw => ?_⟩) (by assumption) ?_
  · go_simp
  simp only [Act.put, List.getElem_toArray, List.getElem_cons_zero, List.getElem_cons_succ, List.setIfInBounds_toArray, List.set_cons_zero, List.set_cons_succ]
  refine wpAnyH_take (i := 11) (v := .int .i64 (j : Int)) rfl (by kernel_rfl) (by kernel_rfl) (by kernel_rfl) (fun _ _ _ h => h) (Or.inl ⟨by rfl, fun w' hSw => ?_⟩) (by assumption) ?_
  · go_simp
  simp only [Act.put, List.getElem_toArray, List.getElem_cons_zero, List.getElem_cons_succ, List.setIfInBounds_toArray, List.set_cons_zero, List.set_cons_succ]
  refine wpAnyH_take (i := 12) (v := .pointer (some (ad.add (j * 2)))) rfl (by kernel_rfl) (by kernel_rfl) (by kernel_rfl) (fun _ _ _ h => h) (Or.inl ⟨by rfl, fun w' hSw => ?_⟩) (by assumption) ?_
  · go_simp
  simp only [Act.put, List.getElem_toArray, List.getElem_cons_zero, List.getElem_cons_succ, List.setIfInBounds_toArray, List.set_cons_zero, List.set_cons_succ]
  refine wpAnyH_take (i := 13) (v := .agg #[.string x.f0, .int .i64 x.f1]) rfl (by kernel_rfl) (by kernel_rfl) (by kernel_rfl) (fun _ _ _ h => h) (Or.inl ⟨by rfl, fun w' hSw => ?_⟩) (by assumption) ?_
  · (have hs := (hSw.cell hbw).trans H0.out; have hs1 := (hSw.cell (p := ⟨(ad.add (j * 2)).block, (ad.add (j * 2)).off + 1, none⟩) hbw).trans H1.out; go_simp)
  simp only [Act.put, List.getElem_toArray, List.getElem_cons_zero, List.getElem_cons_succ, List.setIfInBounds_toArray, List.set_cons_zero, List.set_cons_succ]
  refine wpAnyH_ready (rs := [14]) (by kernel_rfl) (by simp) ?_
  refine AllReadyH.cons (o := _) rfl (fun K1 hK1 => ?_) AllReadyH.nil
  go_simp
  refine hK1.out _ _ ?_ (fun hHeld => ?_)
  · exact below_alloc hHeld _
  clear hK1 K1
  try simp only [Act.put, List.getElem_toArray, List.getElem_cons_zero, List.getElem_cons_succ, List.setIfInBounds_toArray, List.set_cons_zero, List.set_cons_succ]
  refine wpAnyH_ready (rs := [15]) (by kernel_rfl) (by simp) ?_
  refine AllReadyH.cons (o := _) rfl (fun K1 hK1 => ?_) AllReadyH.nil
  go_simp
  refine hK1.out _ _ ?_ (fun hHeld => ?_)
  · exact (below_alloc (Below.refl w.heap.size w) _).drew
  clear hK1 K1
  try simp only [Act.put, List.getElem_toArray, List.getElem_cons_zero, List.getElem_cons_succ, List.setIfInBounds_toArray, List.set_cons_zero, List.set_cons_succ]
  refine wpAnyH_done (by kernel_rfl) ?_ _
  show K _ _
  refine hK _ _ ?_
  clear hK K
  go_wp2
  go_ret
  exact ⟨rfl, hHeld⟩
/-- text: the word is there. -/
theorem text_in (p : Nat) (A : Option Addr) (c : Nat) (ws : List Wd) (i : Nat) (hi : i < ws.length) (hl : ws.length ≤ 140737488355328) (w : World) (hq : w.cell? ⟨p, 1, none⟩ = some (.slice A ws.length c)) (hC : Kd.C k128 w A ws.length ws) :
    Calls Tryz.prog 77 #[.pointer (some ⟨p, 0, none⟩), .int .i64 i] w fun e w' => e = .returned (.string ws[i].f0) ∧ Drawn0 w w' := by
  obtain ⟨ad, rfl, h0, h1⟩ := at_T128 hC (i : Int) (by omega) (by omega)
  simp only [Int.toNat_natCast] at h0 h1
  have hx : rd_T128 ws (i : Int) = ws[i] := by simp [rd_T128, List.getD, hi]
  rw [hx] at h0 h1
  obtain ⟨x, hxx⟩ : ∃ x, ws[i] = x := ⟨_, rfl⟩
  rw [hxx] at h0 h1 ⊢
  obtain ⟨n, hn2⟩ : ∃ n, ws.length = n := ⟨_, rfl⟩
  rw [hn2] at hq hi
  have b0n : ¬ n ≤ i := by omega
  have b0 := decide_eq_false (show ¬ (n : Int) ≤ ((i : Nat) : Int) by omega)
  have b1 : (0 : Int) ≤ (i : Int) := by omega
  have b2 : (i : Int) < (n : Int) := by omega
  clear hx hC hxx hn2
  go_enter Tryz.func77, Tryz.ntmps77
  go_wp2
  go_ret
  exact ⟨rfl, by repeat (first | exact Drawn0.refl _ | apply Drawn0.step)⟩
/-- What is known of a line's words. -/
structure WsOk (ws : List Wd) : Prop where
  pos : 0 < ws.length
  len : ws.length ≤ 140737488355
  sum : (ws.map (fun x => x.f0.size + 1)).sum ≤ 140737488355328
  at_ : ∀ x ∈ ws, 0 ≤ x.f1 ∧ x.f1 ≤ 140737488355328 ∧ x.f0.size ≤ 140737488351232
/-- text: the word lacks. -/
theorem text_no (p : Nat) (A : Option Addr) (c : Nat) (ws : List Wd) (i : Nat) (hi : ws.length ≤ i) (hi2 : i ≤ 140737488355328) (ho : WsOk ws) (w : World) (hq : w.cell? ⟨p, 1, none⟩ = some (.slice A ws.length c)) (hC : Kd.C k128 w A ws.length ws) :
    Calls Tryz.prog 77 #[.pointer (some ⟨p, 0, none⟩), .int .i64 i] w fun e w' => e = .panicked (thrown 5 (atW ws i)) ∧ Below w.heap.size w w' := by
  have HA := Aside0.mk (at_end p A c ws i hi hi2 ho.pos (fun x hx => ⟨(ho.at_ x hx).1, (ho.at_ x hx).2.1, by have := (ho.at_ x hx).2.2; omega⟩) w hq hC)
  have HF := Aside0.mk (fun w' => fail_calls 5 (atW ws i) w')
  obtain ⟨r, hr⟩ : ∃ r, atW ws i = r := ⟨_, rfl⟩
  rw [hr] at HA HF ⊢
  obtain ⟨n, hn2⟩ : ∃ n, ws.length = n := ⟨_, rfl⟩
  rw [hn2] at hq hi
  have b0n : n ≤ i := hi
  have b0 := decide_eq_true (show (n : Int) ≤ ((i : Nat) : Int) by omega)
  clear hC hn2 ho hr
  go_enter Tryz.func77, Tryz.ntmps77
  go_wp2_with fail
  refine HA.out.mono ?_
  rintro e w1 ⟨rfl, hb⟩
  go_wp2_with fail
  refine (HF.out w1).mono ?_
  rintro e w2 ⟨rfl, rfl⟩
  exact ⟨rfl, rfl, hb⟩
/-- at, whatever the place. -/
theorem at_any (p : Nat) (A : Option Addr) (c : Nat) (ws : List Wd) (i : Nat) (hi2 : i ≤ 140737488355328) (ho : WsOk ws) (w : World) (hq : w.cell? ⟨p, 1, none⟩ = some (.slice A ws.length c)) (hC : Kd.C k128 w A ws.length ws) :
    Calls Tryz.prog 79 #[.pointer (some ⟨p, 0, none⟩), .int .i64 i] w fun e w' => e = .returned (.int .i64 (atW ws i)) ∧ Below w.heap.size w w' := by
  rcases Nat.lt_or_ge i ws.length with h | h
  · have := ho.len
    exact (at_in p A c ws i h (by omega) w hq hC).mono fun e w' h => ⟨h.1, h.2.below⟩
  · exact at_end p A c ws i h hi2 ho.pos (fun x hx => ⟨(ho.at_ x hx).1, (ho.at_ x hx).2.1, by have := (ho.at_ x hx).2.2; omega⟩) w hq hC
theorem name_ok (p : Nat) (A : Option Addr) (c : Nat) (ws : List Wd) (i : Nat) (hi : i < ws.length) (ho : WsOk ws) (hb : nameB ws[i].f0 = true) (w : World) (hq : w.cell? ⟨p, 1, none⟩ = some (.slice A ws.length c)) (hC : Kd.C k128 w A ws.length ws) :
    Calls Tryz.prog 80 #[.pointer (some ⟨p, 0, none⟩), .int .i64 i] w fun e w' => e = .returned (.string ws[i].f0) ∧ Drawn0 w w' := by
  have h3 := ho.len
  have HT := Aside0.mk (text_in p A c ws i hi (by omega) w hq hC)
  have HK := Aside0.mk (fun w' => Check_calls ws[i].f0 w' (ho.at_ _ (List.getElem_mem hi)).2.2)
  rw [hb] at HK
  obtain ⟨x, hxx⟩ : ∃ x, ws[i].f0 = x := ⟨_, rfl⟩
  rw [hxx] at HT HK ⊢
  clear hC hxx hb ho h3 hi hq
  go_enter Tryz.func80, Tryz.ntmps80
  go_wp2_with fail
  refine HT.out.mono ?_
  rintro e w1 ⟨rfl, hd⟩
  have HD1 := Aside0.mk hd
  clear hd
  go_wp2_with fail
  refine (HK.out w1).mono ?_
  rintro e w2 ⟨rfl, hd⟩
  simp only [errN, if_true]
  obtain ⟨m1, hm1⟩ := HD1.out.out
  obtain ⟨m2, hm2⟩ := hd.out
  have HD2 := Aside0.mk (show Drawn0 w w2 from ⟨⟨m1 + m2, by rw [hm2, hm1, World.drewN_drewN]⟩⟩)
  clear hd hm1 hm2
  go_wp2
  go_ret
  exact ⟨rfl, HD2.out⟩
theorem name_no (p : Nat) (A : Option Addr) (c : Nat) (ws : List Wd) (i : Nat) (hi2 : i ≤ 140737488355328) (ho : WsOk ws) (w : World) (hq : w.cell? ⟨p, 1, none⟩ = some (.slice A ws.length c)) (hC : Kd.C k128 w A ws.length ws) (hi : ws.length ≤ i) :
    Calls Tryz.prog 80 #[.pointer (some ⟨p, 0, none⟩), .int .i64 i] w fun e w' => e = .panicked (thrown 5 (atW ws i)) ∧ Below w.heap.size w w' := by
  have HT := Aside0.mk (text_no p A c ws i hi hi2 ho w hq hC)
  obtain ⟨r, hr⟩ : ∃ r, atW ws i = r := ⟨_, rfl⟩
  rw [hr] at HT ⊢
  clear hC ho hi hi2 hq hr
  go_enter Tryz.func80, Tryz.ntmps80
  go_wp2_with fail
  refine HT.out.mono ?_
  rintro e w1 ⟨rfl, hd⟩
  exact ⟨rfl, rfl, hd⟩
theorem name_bad (p : Nat) (A : Option Addr) (c : Nat) (ws : List Wd) (i : Nat) (hi : i < ws.length) (ho : WsOk ws) (hb : nameB ws[i].f0 = false) (w : World) (hq : w.cell? ⟨p, 1, none⟩ = some (.slice A ws.length c)) (hC : Kd.C k128 w A ws.length ws) :
    Calls Tryz.prog 80 #[.pointer (some ⟨p, 0, none⟩), .int .i64 i] w fun e w' => e = .panicked (thrown 7 (atW ws i)) ∧ Below w.heap.size w w' := by
  have h3 := ho.len
  have HT := Aside0.mk (text_in p A c ws i hi (by omega) w hq hC)
  have HK := Aside0.mk (fun w' => Check_calls ws[i].f0 w' (ho.at_ _ (List.getElem_mem hi)).2.2)
  have HA := Aside0.mk (fun w' (hb : Below w.heap.size w w') => at_any p A c ws i (by omega) ho w' ((hb.cell (World.block_lt_of_cell? w _ hq)).trans hq) (Kd.C_below hC hb))
  have HF := Aside0.mk (fun w' => fail_calls 7 (atW ws i) w')
  rw [hb] at HK
  obtain ⟨x, hxx⟩ : ∃ x, ws[i].f0 = x := ⟨_, rfl⟩
  rw [hxx] at HT HK
  obtain ⟨r, hr⟩ : ∃ r, atW ws i = r := ⟨_, rfl⟩
  rw [hr] at HA HF ⊢
  clear hC hxx hb ho h3 hi hq hr
  go_enter Tryz.func80, Tryz.ntmps80
  go_wp2_with fail
  refine HT.out.mono ?_
  rintro e w1 ⟨rfl, hd⟩
  have HB1 := Aside0.mk hd.below
  clear hd
  go_wp2_with fail
  refine (HK.out w1).mono ?_
  rintro e w2 ⟨rfl, hd⟩
  simp only [errN, if_false, Bool.false_eq_true]
  have HB2 := Aside0.mk (HB1.out.trans (hd.below.mono HB1.out.size))
  clear hd
  go_wp2_with fail
  refine (HA.out w2 HB2.out).mono ?_
  rintro e w3 ⟨rfl, hb⟩
  have HB3 := Aside0.mk (HB2.out.trans (hb.mono HB2.out.size))
  clear hb
  go_wp2_with fail
  refine (HF.out w3).mono ?_
  rintro e w4 ⟨rfl, rfl⟩
  exact ⟨rfl, rfl, HB3.out⟩
theorem plain_ok (p : Nat) (A : Option Addr) (c n : Nat) (hn : n ≤ 2) (w : World) (hq : w.cell? ⟨p, 1, none⟩ = some (.slice A n c)) :
    Calls Tryz.prog 107 #[.pointer (some ⟨p, 0, none⟩)] w fun e w' => e = .returned (.tuple #[]) ∧ Drawn0 w w' := by
  have b0n : ¬ 2 < n := by omega
  have b0 := decide_eq_false (show ¬ (2 : Int) < (n : Int) by omega)
  go_enter Tryz.func107, Tryz.ntmps107
  go_wp2
  go_end0
  exact ⟨rfl, by repeat (first | exact Drawn0.refl _ | apply Drawn0.step)⟩
theorem plain_bad (p : Nat) (A : Option Addr) (c : Nat) (ws : List Wd) (hn : 2 < ws.length) (ho : WsOk ws) (w : World) (hq : w.cell? ⟨p, 1, none⟩ = some (.slice A ws.length c)) (hC : Kd.C k128 w A ws.length ws) :
    Calls Tryz.prog 107 #[.pointer (some ⟨p, 0, none⟩)] w fun e w' => e = .panicked (thrown 5 (atW ws 2)) ∧ Below w.heap.size w w' := by
  have HA := Aside0.mk (fun w' (hb : Below w.heap.size w w') => at_any p A c ws 2 (by omega) ho w' ((hb.cell (World.block_lt_of_cell? w _ hq)).trans hq) (Kd.C_below hC hb))
  have HF := Aside0.mk (fun w' => fail_calls 5 (atW ws 2) w')
  obtain ⟨r, hr⟩ : ∃ r, atW ws 2 = r := ⟨_, rfl⟩
  rw [hr] at HA HF ⊢
  obtain ⟨n, hn2⟩ : ∃ n, ws.length = n := ⟨_, rfl⟩
  rw [hn2] at hq hn
  have b0 := decide_eq_true (show (2 : Int) < (n : Int) by omega)
  clear hC ho hr hn2
  go_enter Tryz.func107, Tryz.ntmps107
  go_wp2_with fail
  refine (HA.out _ (Below.refl _ _)).mono ?_
  rintro e w1 ⟨rfl, hb⟩
  go_wp2_with fail
  refine (HF.out w1).mono ?_
  rintro e w2 ⟨rfl, rfl⟩
  exact ⟨rfl, rfl, hb⟩
end Go.Proofs.YtkjnbfjbdlcehaaGreatDoor.P

/- grammar.reader.rest: all words from one on. -/
namespace Go.Proofs.YtkjnbfjbdlcehaaGreatDoor.P
open Go.RowKit Go.Proofs.YtkjnbfjbdlcehaaGreatDoorW.PrintWords Go.Proofs.YtkjnbfjbdlcehaaGreatDoorW.PrintLast Go.Proofs.YtkjnbfjbdlcehaaGreatDoorW.PrintMore
set_option linter.unusedVariables false
set_option linter.unusedSimpArgs false
def restW (ws : List Wd) (i : Nat) : List ByteArray := (ws.drop i).map (·.f0)
theorem restW_take (ws : List Wd) (i k : Nat) (h : i + k < ws.length) : (restW ws i).take (k + 1) = (restW ws i).take k ++ [ws[i + k].f0] := by
  have hl : k < (restW ws i).length := by simp [restW]; omega
  rw [List.take_succ_eq_append_getElem hl]
  simp [restW]
theorem infoS12 : (Tryz.prog.info? 9).map (fun i => (i.zero, i.size, i.bytes)) = some (some (.string ⟨#[]⟩), 1, 16) := by kernel_rfl
set_option maxRecDepth 100000 in
set_option maxHeartbeats 2000000 in
theorem rest_calls (p : Nat) (A : Option Addr) (c : Nat) (ws : List Wd) (i : Nat) (hi : i ≤ ws.length) (hcap : ws.length ≤ c) (ho : WsOk ws) (w : World) (hq : w.cell? ⟨p, 1, none⟩ = some (.slice A ws.length c)) (hC : Kd.C k128 w A ws.length ws) :
    Calls Tryz.prog 122 #[.pointer (some ⟨p, 0, none⟩), .int .i64 i] w fun e w' => ∃ v, e = .returned v ∧ Kd.string.R 9 w' w.heap.size (fun _ => True) v (restW ws i) ∧ Below w.heap.size w w' := by
  have h3 := ho.len
  obtain ⟨ad, rfl, _⟩ := at_T128 hC (0 : Int) (by omega) (by have := ho.pos; omega)
  have HC := Aside0.mk hC
  have HO := Aside0.mk ho
  have b1 : (0 : Int) ≤ (i : Int) := by omega
  have b2 : (i : Int) ≤ (ws.length : Int) := by omega
  have b3 : (ws.length : Int) ≤ (c : Int) := by omega
  clear hC ho
  go_enter Tryz.func122, Tryz.ntmps122
  rcases Nat.lt_or_ge i c with hic | hic
  · have b4 : ¬ (i = c) := by omega
    have b5 : ¬ (c = i) := by omega
    obtain ⟨n, hn⟩ : ∃ n, Aside0 (ws.length - i = n) := ⟨_, ⟨rfl⟩⟩
    go_wp2
    rw [hn.out]
    go_loopg [4, 15] (n + 1) (fun g v4 v15 wr => ∃ k : Nat, k ≤ n ∧ Aside0 (k + g = n + 1) ∧ v15 = .int .i64 k ∧ Aside0 (Kd.string.R 9 wr w.heap.size (fun _ => True) v4 ((restW ws i).take k)) ∧ Aside0 (Below w.heap.size w wr))
    case atStart => exact ⟨0, by omega, ⟨by omega⟩, rfl, ⟨Kd.R_nil _ _ _ _ _⟩, ⟨Below.refl _ _⟩⟩
    case round =>
      obtain ⟨k, hk, hg, rfl, hR, hB⟩ := hrel
      by_cases c1 : k < n
      · have hik : i + k < ws.length := by have := hn.out; omega
        obtain ⟨ad2, e2, g0, g1⟩ := at_T128 (Kd.C_below HC.out hB.out) ((i + k : Nat) : Int) (by omega) (by omega)
        cases e2
        simp only [Int.toNat_natCast] at g0 g1
        have hx : rd_T128 ws ((i + k : Nat) : Int) = ws[i + k] := by
          unfold rd_T128
          rw [Int.toNat_natCast]
          simp [List.getD, hik]
        have HTK := Aside0.mk (restW_take ws i k hik)
        have hkl : ((restW ws i).take k).length ≤ 140737488355 := by simp [restW]; omega
        rw [hx] at g0 g1
        obtain ⟨x, hxx⟩ : ∃ x, ws[i + k] = x := ⟨_, rfl⟩
        rw [hxx] at g0 g1 HTK
        have ea : ad.add ((i + k) * 2) = (ad.add (i * 2)).add (k * 2) := by rw [Go.Proofs.YtkjnbfjbdlcehaaGreatDoorW.PrintWords.add_add, Nat.add_mul]
        rw [ea] at g0 g1
        have HM := Aside0.mk (show ∀ W : World, Kd.string.M W w.heap.size (fun _ => False) x.f0 [.string x.f0] from fun W => rfl)
        have HLen := Aside0.mk (show (((restW ws i).take k).length + 1) * 16 ≤ 140737488355328 by omega)
        have HBx := Aside0.mk (hB.out.trans ((below_alloc (Below.refl wr.heap.size wr) (.cells #[.string x.f0, .int .i64 x.f1] 128)).mono hB.out.size))
        have HRx := Aside0.mk (Kd.R_below hR.out (below_alloc (Below.refl wr.heap.size wr) (.cells #[.string x.f0, .int .i64 x.f1] 128)))
        have d0 := decide_eq_true (show ((k : Nat) : Int) < (n : Int) by omega)
        have d1 : (0 : Int) ≤ (k : Int) := by omega
        have d2 : (k : Int) < (n : Int) := by omega
        clear hx hxx ea hkl
        go_wp2_with ((with_reducible refine gate_builtin (b := .append) (xs := #[.tmp 19, .tmp 22]) rfl ?_); at_builtin; refine Kd.R_append Kd.string (w0 := w) w.heap.size rfl (.tmp 19) (.tmp 22) 50 9 (.string ⟨#[]⟩) 16 rfl Tryz.underlying50 infoS12 rfl (by decide) (by decide) _ ((restW ws i).take k) x.f0 [.string x.f0] (fun _ => True) (fun _ => False) rfl (by show Value.slice (some ⟨wr.heap.size + 1, 0, none⟩) 1 1 = _; simp) (HM.out _) (fun _ h => h.elim) (fun _ _ => trivial) HRx.out HBx.out HBx.out.size HLen.out ?_; intro v4 w4 hR4 hb4 _ _; rw [← HTK.out] at hR4; have HR4 := Aside0.mk hR4; have HB4 := Aside0.mk hb4; clear hR4 hb4)
        go_roundg (gk - 1)
        case measure => have := hg.out; omega
        case rel => exact ⟨k + 1, by omega, ⟨by have := hg.out; omega⟩, by go_num, HR4, HB4⟩
      · have d0 := decide_eq_false (show ¬ ((k : Nat) : Int) < (n : Int) by omega)
        have hRv := hR.out
        rw [show (restW ws i).take k = restW ws i from List.take_of_length_le (by simp [restW]; have := hn.out; omega)] at hRv
        have HRV := Aside0.mk hRv
        clear hRv hR
        go_wp2
        go_ret
        exact ⟨_, rfl, HRV.out, hB.out⟩
  · have hci : c = i := by omega
    subst hci
    have hcl : ws.length - c = 0 := by omega
    have HE := Aside0.mk (show restW ws c = [] by simp [restW]; omega)
    go_wp2
    go_loopg [4, 15] 1 (fun g v4 v15 wr => v15 = .int .i64 0 ∧ v4 = .slice none 0 0 ∧ wr = w)
    case atStart => exact ⟨rfl, rfl, rfl⟩
    case round =>
      obtain ⟨rfl, rfl, rfl⟩ := hrel
      go_wp2
      go_ret
      exact ⟨_, rfl, by rw [HE.out]; exact Kd.R_nil _ _ _ _ _, Below.refl _ _⟩
end Go.Proofs.YtkjnbfjbdlcehaaGreatDoor.P

/- grammar.reader.op and object: what stands behind a line's second word. -/
namespace Go.Proofs.YtkjnbfjbdlcehaaGreatDoor.P
open Go.RowKit Go.Proofs.YtkjnbfjbdlcehaaGreatDoorW.PrintWords Go.Proofs.YtkjnbfjbdlcehaaGreatDoorW.PrintLast Go.Proofs.YtkjnbfjbdlcehaaGreatDoorW.PrintMore
set_option linter.unusedVariables false
set_option linter.unusedSimpArgs false
theorem Chg.sets {S : Nat → Prop} {a b : World} (h : Chg S a b) {p : Nat} (hp : S p) (o : Nat) (vs : List Value) : Chg S a (b.setCells p o vs) := by
  obtain ⟨h1, h2, h3, h4⟩ := setCells_same p vs o b
  exact ⟨h1.trans h.os, h2.trans h.tape, h3.trans h.output, by have h5 := h.size; omega, fun k hk hn => (setCells_far vs o k (fun e => hn (e ▸ hp))).trans (h.block k hk hn)⟩
section
variable {P : Program} {ops : Array Oper} {rest : List Oper} {o : Oper} {a : Act} {Q : Exit → Act → World → Prop} {W : World}
/-- A store of a struct into a block of one's own. -/
theorem store_cells {t : TypeId} {pt : Tmp} {x : Operand} {g off : Nat} {e : TypeId} {cur : Array Value} (hgd : o.guard = none) (hN : o.dst = none) (ho : o.op = .store t (.tmp pt) x) (ha : a.eval (.tmp pt) = .pointer (some ⟨g, off, none⟩)) (u : Value) (hv : a.eval x = u) (seg : List Value)
    (hh : W.heap[g]? = some (.cells cur e (0, 0))) (hu : u.cells.toList = seg) (ht : (P.info? t).map (·.size) = some seg.length) (hfit : off + seg.length ≤ cur.size) (h1 : ∀ q ∈ seg, q.oneCell' = true)
    (h : wpList P ops Q rest a (W.setCells g off seg)) : wpList P ops Q (o :: rest) a W := by
  refine store_event (w1 := W.setCells g off seg) hgd ho hN ?_ (fun w' hw => hw ▸ h)
  have hrun := run_store_run t u seg hh hu ht hfit h1
  unfold execOp
  simp only [ho, ha, hv, Sem.run_bind, Sem.run_pure, Result.andThen_ok, hrun]
end
/-- The reader's block: the line, and the event's eleven cells. -/
def rdC (x0 : Value) (A : Option Addr) (n c : Nat) (e0 e1 e2 e3 e4 e5 e6 e7 e8 e9 e10 : Value) : Obj := .cells #[x0, .slice A n c, e0, e1, e2, e3, e4, e5, e6, e7, e8, e9, e10] 87 (0, 0)
/-- What op makes of a line's words. -/
def opL (ws : List Wd) : Option (Sum (ByteArray × Int × Int × Int × Int × Int) (Int × Int)) :=
  match ws[2]? with
  | none => some (.inr (5, atW ws 2))
  | some x => if nameB x.f0 = false then some (.inr (7, atW ws 2)) else
    match operation_Read.f (restW ws 3) with
    | none => none
    | some (k, a, b, rk, rn, at_, err) => if err = 0 then some (.inl (x.f0, k, a, b, rk, rn)) else if 0 ≤ at_ ∧ at_ ≤ 1000000 then some (.inr (err, atW ws (at_.toNat + 3))) else none
def opPost (p : Nat) (x0 : Value) (A : Option Addr) (n c : Nat) (e0 e1 e8 e9 e10 : Value) : Sum (ByteArray × Int × Int × Int × Int × Int) (Int × Int) → Ending → World → Prop
  | .inl (s, k, a, b, rk, rn), e, w' => e = .returned (.tuple #[]) ∧ w'.heap[p]? = some (rdC x0 A n c e0 e1 (.string s) (.int .i64 k) (.int .i64 a) (.int .i64 b) (.int .i64 rk) (.int .i64 rn) e8 e9 e10)
  | .inr (E, P), e, w' => e = .panicked (thrown E P)
set_option maxRecDepth 100000 in
set_option maxHeartbeats 2000000 in
theorem op_calls (p : Nat) (x0 : Value) (A : Option Addr) (c : Nat) (ws : List Wd) (e0 e1 e2 e3 e4 e5 e6 e7 e8 e9 e10 : Value) (wb w : World) (hb : w.heap[p]? = some (rdC x0 A ws.length c e0 e1 e2 e3 e4 e5 e6 e7 e8 e9 e10)) (hp : wb.heap.size ≤ p) (hB : Below wb.heap.size wb w) (hC : Kd.C k128 wb A ws.length ws) (hcap : ws.length ≤ c) (ho : WsOk ws) (hG : GOk wb) (r : Sum (ByteArray × Int × Int × Int × Int × Int) (Int × Int)) (h : opL ws = some r) :
    Calls Tryz.prog 108 #[.pointer (some ⟨p, 0, none⟩)] w fun e w' => opPost p x0 A ws.length c e0 e1 e8 e9 e10 r e w' ∧ Chg (fun k => k = p) w w' := by
  have q1 : w.cell? ⟨p, 1, none⟩ = some (.slice A ws.length c) := (blk_cell hb 1).trans rfl
  have hCw := Kd.C_below hC hB
  unfold opL at h
  cases h2 : ws[2]? with
  | none =>
    rw [h2] at h
    simp only [Option.some.injEq] at h
    subst h
    have HT := Aside0.mk (name_no p A c ws 2 (by omega) ho w q1 hCw (List.getElem?_eq_none_iff.1 h2))
    clear hb hC hCw ho h2 q1 hG
    obtain ⟨r, hr⟩ : ∃ r, atW ws 2 = r := ⟨_, rfl⟩
    rw [hr] at HT ⊢
    go_enter Tryz.func108, Tryz.ntmps108
    go_wp2_with fail
    refine HT.out.mono ?_
    rintro e w1 ⟨rfl, hd⟩
    exact ⟨rfl, rfl, Chg.of_below _ hd⟩
  | some x =>
    rw [h2] at h
    simp only at h
    obtain ⟨hl2, hx⟩ := List.getElem?_eq_some_iff.1 h2
    cases hnb : nameB x.f0 with
    | false =>
      rw [hnb] at h
      simp only [if_true, Option.some.injEq] at h
      subst h
      have HT := Aside0.mk (name_bad p A c ws 2 hl2 ho (by rw [hx]; exact hnb) w q1 hCw)
      clear hb hC hCw ho h2 q1 hG hx hnb
      obtain ⟨r, hr⟩ : ∃ r, atW ws 2 = r := ⟨_, rfl⟩
      rw [hr] at HT ⊢
      go_enter Tryz.func108, Tryz.ntmps108
      go_wp2_with fail
      refine HT.out.mono ?_
      rintro e w1 ⟨rfl, hd⟩
      exact ⟨rfl, rfl, Chg.of_below _ hd⟩
    | true =>
      rw [hnb] at h
      simp only [Bool.true_eq_false, if_false] at h
      have HT := Aside0.mk (name_ok p A c ws 2 hl2 ho (by rw [hx]; exact hnb) w q1 hCw)
      rw [hx] at HT
      cases hR : operation_Read.f (restW ws 3) with
      | none => rw [hR] at h; cases h
      | some y =>
        obtain ⟨k, a, b, rk, rn, at_, err⟩ := y
        rw [hR] at h
        simp only at h
        have HOr := Aside0.mk (fun w' A0 c0 (hr0 : Kd.C Kd.string w' A0 (restW ws 3).length (restW ws 3)) (hc0 : (restW ws 3).length ≤ c0) (hg : GOk w') => operation_Read.calls A0 c0 (restW ws 3) k a b rk rn at_ err w' hr0 hc0 hg hR)
        have HRs := Aside0.mk (fun w' (hb' : Below wb.heap.size wb w') (hq : w'.cell? ⟨p, 1, none⟩ = some (.slice A ws.length c)) => rest_calls p A c ws 3 (by omega) hcap ho w' hq (Kd.C_below hC hb'))
        have HAt := Aside0.mk (fun w' i (hi : i ≤ 140737488355328) (hb' : Below wb.heap.size wb w') (hq : w'.cell? ⟨p, 1, none⟩ = some (.slice A ws.length c)) => at_any p A c ws i hi ho w' hq (Kd.C_below hC hb'))
        have HB := Aside0.mk hB
        have HG := Aside0.mk hG
        have HBK := Aside0.mk hb
        have HP := Aside0.mk hp
        obtain ⟨s, hs⟩ : ∃ s, x.f0 = s := ⟨_, rfl⟩
        rw [hs] at HT h
        obtain ⟨n, hn⟩ : ∃ n, ws.length = n := ⟨_, rfl⟩
        rw [hn] at HRs HAt HBK
        rw [hn]
        clear hb hC hCw ho h2 q1 hG hx hnb hB hcap hl2 hn hs hR hp
        go_enter Tryz.func108, Tryz.ntmps108
        go_wp2_with fail
        refine HT.out.mono ?_
        rintro e w1 ⟨rfl, hd⟩
        have hb1 := (hd.below.block p (blk_lt HBK.out)).trans HBK.out
        have HC1 := Aside0.mk (Chg.of_below (fun k => k = p) hd.below)
        have qc := (blk_cell hb1 4).trans rfl
        have qf := blk_frozen hb1 4
        have HB1 := Aside0.mk hb1
        clear hd hb1 HT
        go_wp2_with fail
        have hb2 := blk_put HB1.out 4 (.string s) rfl
        have HC2 := Aside0.mk (HC1.out.set_ (p := ⟨p, 4, none⟩) (.inl rfl) (.string s))
        obtain ⟨w2, hw2⟩ : ∃ w2 : World, w1.setCell ⟨p, 4, none⟩ (.string s) = w2 := ⟨_, rfl⟩
        rw [hw2] at hb2 HC2 ⊢
        clear hw2 qc qf HB1 HC1
        have HB2 := Aside0.mk hb2
        have HW2 := Aside0.mk (HB.out.trans (HC2.out.below HB.out.size (fun k hk => hk ▸ HP.out)))
        refine (HRs.out w2 HW2.out ((blk_cell hb2 1).trans rfl)).mono ?_
        clear hb2
        rintro e w3 ⟨v, rfl, hR3, hb3⟩
        obtain ⟨A0, c0, rfl, hc0, hC0⟩ := Kd.R_reads hR3
        have HB3 := Aside0.mk ((hb3.block p (blk_lt HB2.out)).trans HB2.out)
        have HC3 := Aside0.mk (HC2.out.then_below hb3)
        have HW3 := Aside0.mk (HW2.out.trans (hb3.mono HW2.out.size))
        have HRd := Aside0.mk (HOr.out w3 A0 c0 hC0 hc0 (HG.out.below HW3.out))
        clear hR3 hb3 hC0 hc0 HB2 HC2 HW2 HRs HOr
        go_wp2_with fail
        refine HRd.out.mono ?_
        rintro e w4 ⟨rfl, hb4⟩
        have HB4 := Aside0.mk ((hb4.block p (blk_lt HB3.out)).trans HB3.out)
        have HC4 := Aside0.mk (HC3.out.then_below hb4)
        have HW4 := Aside0.mk (HW3.out.trans (hb4.mono HW3.out.size))
        clear hb4 HB3 HC3 HW3 HRd
        go_upto_region 2 with (fail)
        obtain ⟨w5, hw5⟩ : ∃ w5 : World, w4.alloc (.cells #[.int .i64 k, .int .i64 a, .int .i64 b, .int .i64 rk, .int .i64 rn] 33) = w5 := ⟨_, rfl⟩
        have hb5 := blk_new w4 (.cells #[.int .i64 k, .int .i64 a, .int .i64 b, .int .i64 rk, .int .i64 rn] 33)
        have hba := below_alloc (Below.refl w4.heap.size w4) (.cells #[.int .i64 k, .int .i64 a, .int .i64 b, .int .i64 rk, .int .i64 rn] 33)
        rw [hw5] at hb5 hba ⊢
        have HB5 := Aside0.mk ((hba.block p (blk_lt HB4.out)).trans HB4.out)
        have HC5 := Aside0.mk (HC4.out.then_below hba)
        have HW5 := Aside0.mk (HW4.out.trans (hba.mono HW4.out.size))
        have o0 := (blk_cell hb5 0).trans rfl
        have o1 := (blk_cell hb5 1).trans rfl
        have o2 := (blk_cell hb5 2).trans rfl
        have o3 := (blk_cell hb5 3).trans rfl
        have o4 := (blk_cell hb5 4).trans rfl
        clear hba HB4 HC4 HW4 hw5
        by_cases ce : err = 0
        · rw [if_pos ce, Option.some.injEq] at h
          subst h
          go_wp2_with ((with_reducible refine gate_store (t := 33) (p := 30) rfl ?_); refine store_cells (t := 33) (pt := 30) (x := .tmp 27) (g := p) (off := 5) rfl rfl rfl rfl (.agg #[.int .i64 k, .int .i64 a, .int .i64 b, .int .i64 rk, .int .i64 rn]) rfl [.int .i64 k, .int .i64 a, .int .i64 b, .int .i64 rk, .int .i64 rn] HB5.out rfl (by kernel_rfl) (by simp) (by simp [Value.oneCell']) ?_)
          go_end0
          exact ⟨⟨rfl, blk_put (blk_put (blk_put (blk_put (blk_put HB5.out 5 _ rfl) 6 _ rfl) 7 _ rfl) 8 _ rfl) 9 _ rfl⟩, HC5.out.sets (p := p) rfl _ _⟩
        · rw [if_neg ce] at h
          by_cases ca : 0 ≤ at_ ∧ at_ ≤ 1000000
          · rw [if_pos ca, Option.some.injEq] at h
            subst h
            obtain ⟨i, hi⟩ : ∃ i : Nat, at_ = (i : Int) := ⟨at_.toNat, by omega⟩
            subst hi
            have hil : i ≤ 1000000 := by omega
            have HA := Aside0.mk (HAt.out w5 (i + 3) (by omega) HW5.out ((blk_cell HB5.out 1).trans rfl))
            rw [show (((i + 3 : Nat)) : Int) = (i : Int) + 3 from by omega] at HA
            have HF := Aside0.mk (fun w' => fail_calls err (atW ws (i + 3)) w')
            obtain ⟨r, hr⟩ : ∃ r, Aside0 (atW ws (i + 3) = r) := ⟨_, ⟨rfl⟩⟩
            rw [hr.out] at HA HF
            have hw3 : IntKind.i64.wrap ((i : Int) + 3) = (i : Int) + 3 := IntWalk.i64_in _ (by omega)
            clear HAt
            go_wp2_with fail
            refine HA.out.mono ?_
            rintro e w6 ⟨rfl, hb6⟩
            go_wp2_with fail
            refine (HF.out w6).mono ?_
            rintro e w7 ⟨rfl, rfl⟩
            exact ⟨rfl, (show Ending.panicked (thrown err r) = Ending.panicked (thrown err (atW ws ((i : Int).toNat + 3))) from by rw [Int.toNat_natCast, hr.out]), HC5.out.then_below hb6⟩
          · rw [if_neg ca] at h
            cases h
end Go.Proofs.YtkjnbfjbdlcehaaGreatDoor.P

/- grammar.reader.object: a first state. -/
namespace Go.Proofs.YtkjnbfjbdlcehaaGreatDoor.P
open Go.RowKit Go.Proofs.YtkjnbfjbdlcehaaGreatDoorW.PrintWords Go.Proofs.YtkjnbfjbdlcehaaGreatDoorW.PrintLast Go.Proofs.YtkjnbfjbdlcehaaGreatDoorW.PrintMore
set_option linter.unusedVariables false
set_option linter.unusedSimpArgs false
theorem joinTail_le (sep : List UInt8) : ∀ l : List (List UInt8), (Lib.joinTail sep l).length ≤ (l.map (fun x => x.length + sep.length)).sum
  | [] => by simp [Lib.joinTail]
  | x :: l => by
    have h1 := joinTail_le sep l
    have h2 : (Lib.joinTail sep (x :: l)).length = sep.length + x.length + (Lib.joinTail sep l).length := by simp [Lib.joinTail, Nat.add_assoc]
    rw [h2, List.map_cons, List.sum_cons]
    omega
theorem join_le (sep : List UInt8) : ∀ l : List (List UInt8), (Lib.join l sep).length ≤ (l.map (fun x => x.length + sep.length)).sum
  | [] => by simp [Lib.join_nil]
  | x :: l => by
    have h1 := joinTail_le sep l
    rw [Lib.join_cons, List.length_append, List.map_cons, List.sum_cons]
    omega
theorem sum_drop (f : Wd → Nat) : ∀ (l : List Wd) (i : Nat), ((l.drop i).map f).sum ≤ (l.map f).sum
  | [], i => by simp
  | x :: l, 0 => by simp
  | x :: l, i + 1 => by
    have := sum_drop f l i
    simp only [List.drop_succ_cons, List.map_cons, List.sum_cons]
    omega
/-- Words joined by blanks. -/
def joinW (l : List ByteArray) : ByteArray := ⟨(Lib.join (l.map (·.data.toList)) [32]).toArray⟩
theorem row_at0s {e base : Nat} {ok : Nat → Prop} {W : World} {v : Value} {xs : List ByteArray} (h : Kd.string.R e W base ok v xs) (hn : 0 < xs.length) : ∃ g c, v = .slice (some ⟨g, 0, none⟩) xs.length c ∧ g < W.heap.size ∧ xs.length ≤ c := by
  obtain ⟨h1, h2⟩ := Kd.own_of_R h
  rcases h2 with ⟨_, h0⟩ | ⟨g, cap, cur, rfl, hg, hh, hx, _⟩
  · omega
  · exact ⟨g, cap, rfl, (Array.getElem?_eq_some_iff.1 hh).1, hx⟩
def objL (ws : List Wd) : Option (Sum (Int × Int × List Int) (Int × Int)) :=
  if ws.length ≤ 2 then some (.inr (5, atW ws 2)) else
    match state_Read.f (joinW (restW ws 2)) with
    | none => none
    | some (T, N, L, E, A) => if E = 0 then (if 1000 < L.length then some (.inr (4, atW ws 2)) else some (.inl (T, N, L))) else if 0 ≤ A ∧ A ≤ 1000000 then some (.inr (E, atW ws 2 + A)) else none
def objPost (p : Nat) (x0 : Value) (A : Option Addr) (n c : Nat) (e0 e1 e2 e3 e4 e5 e6 e7 : Value) (B : Nat) : Sum (Int × Int × List Int) (Int × Int) → Ending → World → Prop
  | .inl (T, N, L), e, w' => e = .returned (.tuple #[]) ∧ ∃ v, w'.heap[p]? = some (rdC x0 A n c e0 e1 e2 e3 e4 e5 e6 e7 (.int .i64 T) (.int .i64 N) v) ∧ (Kd.int .i64).R 3 w' B (fun k => k ≠ p) v L
  | .inr (E, P), e, w' => e = .panicked (thrown E P)
set_option maxRecDepth 100000 in
set_option maxHeartbeats 4000000 in
theorem object_calls (p : Nat) (x0 : Value) (A : Option Addr) (c : Nat) (ws : List Wd) (e0 e1 e2 e3 e4 e5 e6 e7 e8 e9 e10 : Value) (wb w : World) (hb : w.heap[p]? = some (rdC x0 A ws.length c e0 e1 e2 e3 e4 e5 e6 e7 e8 e9 e10)) (hp : wb.heap.size ≤ p) (hB : Below wb.heap.size wb w) (hC : Kd.C k128 wb A ws.length ws) (hcap : ws.length ≤ c) (ho : WsOk ws) (hG : GOk wb) (r : Sum (Int × Int × List Int) (Int × Int)) (h : objL ws = some r) :
    Calls Tryz.prog 106 #[.pointer (some ⟨p, 0, none⟩)] w fun e w' => objPost p x0 A ws.length c e0 e1 e2 e3 e4 e5 e6 e7 w.heap.size r e w' ∧ Chg (fun k => k = p) w w' := by
  have q1 : w.cell? ⟨p, 1, none⟩ = some (.slice A ws.length c) := (blk_cell hb 1).trans rfl
  have hCw := Kd.C_below hC hB
  unfold objL at h
  by_cases hl2 : ws.length ≤ 2
  · rw [if_pos hl2] at h
    simp only [Option.some.injEq] at h
    subst h
    have HT := Aside0.mk (text_no p A c ws 2 hl2 (by omega) ho w q1 hCw)
    clear hb hC hCw ho hl2 q1 hG
    obtain ⟨r, hr⟩ : ∃ r, atW ws 2 = r := ⟨_, rfl⟩
    rw [hr] at HT ⊢
    go_enter Tryz.func106, Tryz.ntmps106
    go_wp2_with fail
    refine HT.out.mono ?_
    rintro e w1 ⟨rfl, hd⟩
    exact ⟨rfl, rfl, Chg.of_below _ hd⟩
  · rw [if_neg hl2] at h
    have hpl := blk_lt hb
    have hlen := ho.len
    obtain ⟨s2, HT⟩ : ∃ s2 : ByteArray, Aside0 (Calls Tryz.prog 77 #[.pointer (some ⟨p, 0, none⟩), .int .i64 2] w fun e w' => e = .returned (.string s2) ∧ Drawn0 w w') := ⟨_, ⟨text_in p A c ws 2 (by omega) (by omega) w q1 hCw⟩⟩
    cases hR : state_Read.f (joinW (restW ws 2)) with
    | none => rw [hR] at h; cases h
    | some y =>
      obtain ⟨T, N, L, E, At⟩ := y
      rw [hR] at h
      simp only at h
      have HSt := Aside0.mk (fun w' (hg : GOk w') => state_Read.calls (joinW (restW ws 2)) T N L E At w' hg hR)
      have HRs := Aside0.mk (fun w' (hb' : Below wb.heap.size wb w') (hq : w'.cell? ⟨p, 1, none⟩ = some (.slice A ws.length c)) => rest_calls p A c ws 2 (by omega) hcap ho w' hq (Kd.C_below hC hb'))
      have HAt := Aside0.mk (fun w' (hb' : Below wb.heap.size wb w') (hq : w'.cell? ⟨p, 1, none⟩ = some (.slice A ws.length c)) => at_in p A c ws 2 (by omega) (by omega) w' hq (Kd.C_below hC hb'))
      have hrl : 0 < (restW ws 2).length := by simp [restW]; omega
      have hrn : (restW ws 2).length ≤ 140737488355328 := by simp [restW]; omega
      have hjl : (Lib.join ((restW ws 2).map (·.data.toList)) [32]).length ≤ 140737488355328 := by
        refine Nat.le_trans (join_le [32] _) ?_
        have h1 := sum_drop (fun x => x.f0.size + 1) ws 2
        have h2 := ho.sum
        have h3 : (((restW ws 2).map (·.data.toList)).map (fun x => x.length + [(32 : UInt8)].length)).sum = ((ws.drop 2).map (fun x => x.f0.size + 1)).sum := by
          unfold restW
          rw [List.map_map, List.map_map]
          congr 1
        omega
      have HJn := Aside0.mk (show ∀ (w' : World) (base : Nat) (v : Value), Kd.string.R 9 w' base (fun _ => True) v (restW ws 2) → Calls Tryz.prog 37 #[v, .string ⟨#[32]⟩] w' fun e w2 => e = .returned (.string (joinW (restW ws 2))) ∧ Below w'.heap.size w' w2 from fun w' base v hr => by
        obtain ⟨g, c0, e0, hg, hc0⟩ := row_at0s hr hrl
        subst e0
        exact Tryz.strings_Join g 0 c0 (restW ws 2) ⟨#[32]⟩ w' (fun j x hx => by
          obtain ⟨hj, hx⟩ := List.getElem?_eq_some_iff.1 hx
          have h1 := (Kd.R_cell ByteArray.empty hr (j : Int) (by omega) (by omega)).1
          rw [Int.toNat_natCast] at h1
          rw [Nat.zero_add, h1]
          simp [rdOf, List.getD, hj, hx]) hg hrn hc0 hjl)
      have HB := Aside0.mk hB
      have HG := Aside0.mk hG
      have HBK := Aside0.mk hb
      have HP := Aside0.mk hp
      obtain ⟨at2, hat2⟩ : ∃ z, Aside0 (atW ws 2 = z) := ⟨_, ⟨rfl⟩⟩
      rw [hat2.out] at HAt h
      have hatb := (show 0 ≤ at2 ∧ at2 ≤ 140737488355328 from by
        rw [← hat2.out]
        unfold atW
        rw [List.getElem?_eq_getElem (show 2 < ws.length by omega)]
        have := ho.at_ _ (List.getElem_mem (show 2 < ws.length by omega))
        exact ⟨this.1, this.2.1⟩)
      obtain ⟨n, hn⟩ : ∃ n, ws.length = n := ⟨_, rfl⟩
      rw [hn] at HRs HAt HBK
      rw [hn]
      clear hb hC hCw ho q1 hG hB hcap hl2 hn hp hrl hrn hjl hlen hR
      go_enter Tryz.func106, Tryz.ntmps106
      go_wp2_with fail
      refine HT.out.mono ?_
      rintro e w1 ⟨rfl, hd⟩
      have HB1 := Aside0.mk ((hd.below.block p hpl).trans HBK.out)
      have HC1 := Aside0.mk (Chg.of_below (fun k => k = p) hd.below)
      have HW1 := Aside0.mk (HB.out.trans (hd.below.mono HB.out.size))
      clear hd HT
      go_wp2_with fail
      refine (HRs.out w1 HW1.out ((blk_cell HB1.out 1).trans rfl)).mono ?_
      rintro e w3 ⟨v, rfl, hR3, hb3⟩
      have HB3 := Aside0.mk ((hb3.block p (blk_lt HB1.out)).trans HB1.out)
      have HC3 := Aside0.mk (HC1.out.then_below hb3)
      have HW3 := Aside0.mk (HW1.out.trans (hb3.mono HW1.out.size))
      have HJ := Aside0.mk (HJn.out w3 _ v hR3)
      clear hR3 hb3 HB1 HC1 HW1 HRs HJn
      go_wp2_with fail
      refine HJ.out.mono ?_
      rintro e w4 ⟨rfl, hb4⟩
      have HB4 := Aside0.mk ((hb4.block p (blk_lt HB3.out)).trans HB3.out)
      have HC4 := Aside0.mk (HC3.out.then_below hb4)
      have HW4 := Aside0.mk (HW3.out.trans (hb4.mono HW3.out.size))
      have HS := Aside0.mk (HSt.out w4 (HG.out.below HW4.out))
      clear hb4 HB3 HC3 HW3 HJ HSt
      go_wp2_with fail
      refine HS.out.mono ?_
      rintro e w5 ⟨v5, rfl, hR5, hb5⟩
      obtain ⟨A5, c5, rfl⟩ := Kd.R_slice hR5
      have HB5 := Aside0.mk ((hb5.block p (blk_lt HB4.out)).trans HB4.out)
      have HC5 := Aside0.mk (HC4.out.then_below hb5)
      have HW5 := Aside0.mk (HW4.out.trans (hb5.mono HW4.out.size))
      have HR5 := Aside0.mk (show (Kd.int .i64).R 3 w5 w.heap.size (fun k => k ≠ p) (.slice A5 L.length c5) L from Kd.R_lower (Kd.R_mono (Kd.R_bound hR5) (fun k hk e => by have h1 := blk_lt HB4.out; have h2 := hk.2.1; omega)) HC4.out.size)
      clear hR5 hb5 HB4 HC4 HW4 HS
      go_upto_region 2 with (fail)
      obtain ⟨w6, hw6⟩ : ∃ w6 : World, (w5.alloc (.cells #[.int .i64 T, .int .i64 N, .slice A5 L.length c5] 36)).alloc (.cells #[.int .i64 E, .int .i64 At] 44) = w6 := ⟨_, rfl⟩
      have hs6 := heap_alloc2_old w5 (.cells #[.int .i64 T, .int .i64 N, .slice A5 L.length c5] 36) (.cells #[.int .i64 E, .int .i64 At] 44)
      have hf6 := heap_alloc2_new w5 (.cells #[.int .i64 T, .int .i64 N, .slice A5 L.length c5] 36) (.cells #[.int .i64 E, .int .i64 At] 44)
      have hba := below_alloc (below_alloc (Below.refl w5.heap.size w5) (.cells #[.int .i64 T, .int .i64 N, .slice A5 L.length c5] 36)) (.cells #[.int .i64 E, .int .i64 At] 44)
      rw [hw6] at hs6 hf6 hba ⊢
      have HB6 := Aside0.mk ((hba.block p (blk_lt HB5.out)).trans HB5.out)
      have HC6 := Aside0.mk (HC5.out.then_below hba)
      have HW6 := Aside0.mk (HW5.out.trans (hba.mono HW5.out.size))
      have HR6 := Aside0.mk (Kd.R_below HR5.out hba)
      have o0 := (blk_cell hs6 0).trans rfl
      have o1 := (blk_cell hs6 1).trans rfl
      have o2 := (blk_cell hs6 2).trans rfl
      have f0 := (blk_cell hf6 0).trans rfl
      have f1 := (blk_cell hf6 1).trans rfl
      have HA6 := Aside0.mk (HAt.out w6 HW6.out ((blk_cell HB6.out 1).trans rfl))
      clear hba HB5 HC5 HW5 HR5 hw6
      by_cases ce : E = 0
      · rw [if_pos ce] at h
        by_cases cl : 1000 < L.length
        · rw [if_pos cl, Option.some.injEq] at h
          subst h
          have HF := Aside0.mk (fun w' => fail_calls 4 at2 w')
          have c1 := decide_eq_true (show (1000 : Int) < (L.length : Int) by omega)
          go_wp2_with fail
          refine HA6.out.mono ?_
          rintro e w7 ⟨rfl, hd⟩
          go_wp2_with fail
          refine (HF.out w7).mono ?_
          rintro e w8 ⟨rfl, rfl⟩
          exact ⟨rfl, rfl, HC6.out.then_below hd.below⟩
        · rw [if_neg cl, Option.some.injEq] at h
          subst h
          have c1 := decide_eq_false (show ¬ (1000 : Int) < (L.length : Int) by omega)
          go_wp2_with ((with_reducible refine gate_store (t := 36) (p := 37) rfl ?_); refine store_cells (t := 36) (pt := 37) (x := .tmp 34) (g := p) (off := 10) rfl rfl rfl rfl (.agg #[.int .i64 T, .int .i64 N, .slice A5 L.length c5]) rfl [.int .i64 T, .int .i64 N, .slice A5 L.length c5] HB6.out rfl (by kernel_rfl) (by simp) (by simp [Value.oneCell']) ?_)
          go_end0
          exact ⟨⟨rfl, _, blk_put (blk_put (blk_put HB6.out 10 _ rfl) 11 _ rfl) 12 _ rfl, Kd.R_step HR6.out (fun k hk _ => setCells_far _ _ k hk)⟩, HC6.out.sets (p := p) rfl _ _⟩
      · rw [if_neg ce] at h
        by_cases ca : 0 ≤ At ∧ At ≤ 1000000
        · rw [if_pos ca, Option.some.injEq] at h
          subst h
          have HF := Aside0.mk (fun w' => fail_calls E (at2 + At) w')
          have hws : IntKind.i64.wrap (at2 + At) = at2 + At := IntWalk.i64_in _ (by omega)
          have HQ6 := Aside0.mk hf6
          go_wp2_with fail
          refine wp_region_held_drew (S := fun w' => Below w6.heap.size w6 w') (by kernel_rfl) ?_ (fun hHeld => ?_)
          · exact (Below.refl _ _).drew
          refine wpAnyH_take (i := 0) (v := .pointer (some ⟨w5.heap.size + 1, 0, none⟩)) rfl (by kernel_rfl) (by kernel_rfl) (by kernel_rfl) (fun _ _ _ h => h) (Or.inl ⟨by rfl, fun w' hSw => ?_⟩) (by assumption) ?_
          · go_simp
          simp only [Act.put, List.getElem_toArray, List.getElem_cons_zero, List.getElem_cons_succ, List.setIfInBounds_toArray, List.set_cons_zero, List.set_cons_succ]
          refine wpAnyH_take (i := 1) (v := .int .i64 E) rfl (by kernel_rfl) (by kernel_rfl) (by kernel_rfl) (fun _ _ _ h => h) (Or.inl ⟨by rfl, fun w' hSw => ?_⟩) (by assumption) ?_
          · (have hs := (blk_cell ((hSw.block _ (blk_lt HQ6.out)).trans HQ6.out) 0).trans rfl; go_simp)
          simp only [Act.put, List.getElem_toArray, List.getElem_cons_zero, List.getElem_cons_succ, List.setIfInBounds_toArray, List.set_cons_zero, List.set_cons_succ]
          refine wpAnyH_take (i := 2) (v := .pointer (some ⟨p, 0, none⟩)) rfl (by kernel_rfl) (by kernel_rfl) (by kernel_rfl) (fun _ _ _ h => h) (Or.inl ⟨by rfl, fun w' hSw => ?_⟩) (by assumption) ?_
          · go_simp
          simp only [Act.put, List.getElem_toArray, List.getElem_cons_zero, List.getElem_cons_succ, List.setIfInBounds_toArray, List.set_cons_zero, List.set_cons_succ]
          refine wpAnyH_take (i := 4) (v := .pointer (some ⟨w5.heap.size + 1, 1, none⟩)) rfl (by kernel_rfl) (by kernel_rfl) (by kernel_rfl) (fun _ _ _ h => h) (Or.inl ⟨by rfl, fun w' hSw => ?_⟩) (by assumption) ?_
          · go_simp
          simp only [Act.put, List.getElem_toArray, List.getElem_cons_zero, List.getElem_cons_succ, List.setIfInBounds_toArray, List.set_cons_zero, List.set_cons_succ]
          refine wpAnyH_take (i := 5) (v := .int .i64 At) rfl (by kernel_rfl) (by kernel_rfl) (by kernel_rfl) (fun _ _ _ h => h) (Or.inl ⟨by rfl, fun w' hSw => ?_⟩) (by assumption) ?_
          · (have hs := (blk_cell ((hSw.block _ (blk_lt HQ6.out)).trans HQ6.out) 1).trans rfl; go_simp)
          simp only [Act.put, List.getElem_toArray, List.getElem_cons_zero, List.getElem_cons_succ, List.setIfInBounds_toArray, List.set_cons_zero, List.set_cons_succ]
          refine wpAnyH_ready (rs := [3]) (by kernel_rfl) (by simp) ?_
          refine AllReadyH.cons (o := _) rfl (fun K1 hK1 => ?_) AllReadyH.nil
          rw [if_pos (by rfl)]; go_wp2_with fail; refine (HAt.out _ (HW6.out.trans (hHeld.mono HW6.out.size)) ((blk_cell ((hHeld.block p (blk_lt HB6.out)).trans HB6.out) 1).trans rfl)).mono ?_; rintro e w7 ⟨rfl, hd⟩; have hb7 := hd.below; clear hd; go_wp2_with fail
          refine hK1.out _ _ ?_ (fun hHeld => ?_)
          · exact hHeld.trans (hb7.mono hHeld.size)
          clear hK1 K1
          try simp only [Act.put, List.getElem_toArray, List.getElem_cons_zero, List.getElem_cons_succ, List.setIfInBounds_toArray, List.set_cons_zero, List.set_cons_succ]
          refine wpAnyH_take (i := 6) (v := .int .i64 (at2 + At)) rfl (by kernel_rfl) (by kernel_rfl) (by kernel_rfl) (fun _ _ _ h => h) (Or.inl ⟨by rfl, fun w' hSw => ?_⟩) (by assumption) ?_
          · go_simp
          simp only [Act.put, List.getElem_toArray, List.getElem_cons_zero, List.getElem_cons_succ, List.setIfInBounds_toArray, List.set_cons_zero, List.set_cons_succ]
          refine wpAnyH_ready (rs := [7]) (by kernel_rfl) (by simp) ?_
          refine AllReadyH.cons (o := _) rfl (fun K1 hK1 => ?_) AllReadyH.nil
          rw [if_pos (by rfl)]
          go_wp2_with fail
          refine (HF.out _).mono ?_
          rintro e w8 ⟨rfl, rfl⟩
          exact ⟨rfl, rfl, HC6.out.then_below hHeld⟩
        · rw [if_neg ca] at h
          cases h
end Go.Proofs.YtkjnbfjbdlcehaaGreatDoor.P

/- grammar.reader.ways: the map of words. -/
namespace Go.Proofs.YtkjnbfjbdlcehaaGreatDoor.P
open Go.RowKit Go.Proofs.YtkjnbfjbdlcehaaGreatDoorW.PrintWords Go.Proofs.YtkjnbfjbdlcehaaGreatDoorW.PrintLast Go.Proofs.YtkjnbfjbdlcehaaGreatDoorW.PrintMore Go.Maps
set_option linter.unusedVariables false
set_option linter.unusedSimpArgs false
def tObject : ByteArray := ⟨#[111, 98, 106, 101, 99, 116]⟩
def tBegin : ByteArray := ⟨#[98, 101, 103, 105, 110]⟩
def tOp : ByteArray := ⟨#[111, 112]⟩
def tCommit : ByteArray := ⟨#[99, 111, 109, 109, 105, 116]⟩
def tAbort : ByteArray := ⟨#[97, 98, 111, 114, 116]⟩
/-- The kind that a word names; 0: none. -/
def kindW (s : ByteArray) : Nat := if s.data.toList = tObject.data.toList then 1 else if s.data.toList = tBegin.data.toList then 2 else if s.data.toList = tOp.data.toList then 3 else if s.data.toList = tCommit.data.toList then 4 else if s.data.toList = tAbort.data.toList then 5 else 0
def wayF (k : Nat) : Nat := if k = 1 then 106 else if k = 3 then 108 else 107
def wayV (p k : Nat) : Value := .agg #[.int .i64 (k : Int), .func (.func (wayF k)) #[.pointer (some ⟨p, 0, none⟩)] #[]]
theorem keyS12 (s : ByteArray) (hs : s.size ≤ maxLen) : keyOf Tryz.prog 9 (.string s) = some (.string s.data.toList) := WideMaps.keyOf_string_mk Tryz.underlying9 hs
set_option maxHeartbeats 2000000 in
set_option maxRecDepth 100000 in
theorem ways_calls (p : Nat) (w : World) :
    Calls Tryz.prog 76 #[.pointer (some ⟨p, 0, none⟩)] w fun e w' => ∃ q F, e = .returned (.map (some q)) ∧ MapF w' Tryz.prog 9 q 5 F ∧ (∀ s : ByteArray, F (.string s.data.toList) = if kindW s = 0 then none else some (wayV p (kindW s))) ∧ Below w.heap.size w w' := by
  have hM0 := MapF.made w Tryz.prog 9
  obtain ⟨w0, hw0⟩ : ∃ w0 : World, w.alloc (.map #[] 0) = w0 := ⟨_, rfl⟩
  rw [hw0] at hM0
  have hsz : w.heap.size < w0.heap.size := hM0.lt
  have hb0 : Below w.heap.size w w0 := by rw [← hw0]; exact below_alloc (Below.refl _ _) _
  obtain ⟨q, hq⟩ : ∃ q, w.heap.size = q := ⟨_, rfl⟩
  rw [hq] at hM0
  obtain ⟨w1, h1, hM1, hg1⟩ := hM0.put (string_keyed Tryz.underlying9) Tryz.underlying132 (v := wayV p 1) (by decide) (keyS12 tObject (by decide)) trivial
  obtain ⟨w2, h2, hM2, hg2⟩ := hM1.put (string_keyed Tryz.underlying9) Tryz.underlying132 (v := wayV p 2) (by decide) (keyS12 tBegin (by decide)) trivial
  obtain ⟨w3, h3, hM3, hg3⟩ := hM2.put (string_keyed Tryz.underlying9) Tryz.underlying132 (v := wayV p 3) (by decide) (keyS12 tOp (by decide)) trivial
  obtain ⟨w4, h4, hM4, hg4⟩ := hM3.put (string_keyed Tryz.underlying9) Tryz.underlying132 (v := wayV p 4) (by decide) (keyS12 tCommit (by decide)) trivial
  obtain ⟨w5, h5, hM5, hg5⟩ := hM4.put (string_keyed Tryz.underlying9) Tryz.underlying132 (v := wayV p 5) (by decide) (keyS12 tAbort (by decide)) trivial
  have HM := Aside0.mk hM5
  have HB := Aside0.mk (show Below w.heap.size w w5 from by
    have c0 := hb0
    have step : ∀ {a b : World}, Below w.heap.size w a → a.grownBy b (some q) → Below w.heap.size w b := fun {a b} ha hg => ⟨hg.os.trans ha.os, hg.tape.trans ha.tape, hg.output.trans ha.output, Nat.le_trans ha.size hg.size, fun k hk => (hg.block k (Nat.lt_of_lt_of_le hk ha.size) (fun e => by have := Option.some.inj e; omega)).trans (ha.block k hk)⟩
    exact step (step (step (step (step hb0 hg1) hg2) hg3) hg4) hg5)
  have g1 : (Instr.mapUpdate 132 (.map (some q)) (.string ⟨#[111, 98, 106, 101, 99, 116]⟩) (.agg #[.int .i64 1, .func (.func 106) #[.pointer (some ⟨p, 0, none⟩)] #[]])).run Tryz.prog w0 = .ok () w1 := h1
  have g2 : (Instr.mapUpdate 132 (.map (some q)) (.string ⟨#[98, 101, 103, 105, 110]⟩) (.agg #[.int .i64 2, .func (.func 107) #[.pointer (some ⟨p, 0, none⟩)] #[]])).run Tryz.prog w1 = .ok () w2 := h2
  have g3 : (Instr.mapUpdate 132 (.map (some q)) (.string ⟨#[111, 112]⟩) (.agg #[.int .i64 3, .func (.func 108) #[.pointer (some ⟨p, 0, none⟩)] #[]])).run Tryz.prog w2 = .ok () w3 := h3
  have g4 : (Instr.mapUpdate 132 (.map (some q)) (.string ⟨#[99, 111, 109, 109, 105, 116]⟩) (.agg #[.int .i64 4, .func (.func 107) #[.pointer (some ⟨p, 0, none⟩)] #[]])).run Tryz.prog w3 = .ok () w4 := h4
  have g5 : (Instr.mapUpdate 132 (.map (some q)) (.string ⟨#[97, 98, 111, 114, 116]⟩) (.agg #[.int .i64 5, .func (.func 107) #[.pointer (some ⟨p, 0, none⟩)] #[]])).run Tryz.prog w4 = .ok () w5 := h5
  clear h1 h2 h3 h4 h5
  clear hM0 hM1 hM2 hM3 hM4 hM5 hg1 hg2 hg3 hg4 hg5 hb0
  have hmm : (Instr.makeMap 132 none).run Tryz.prog w = .ok (.map (some q)) w0 := by rw [← hw0, ← hq]; rfl
  have hmf : ∀ (fn : Fn) (first cap : Array Value) (w : World), (Instr.makeFunc fn first cap).run Tryz.prog w = .ok (.func fn first cap) w := fun _ _ _ _ => rfl
  go_enter Tryz.func76, Tryz.ntmps76
  go_wp2
  go_ret
  refine ⟨q, _, rfl, HM.out, fun s => ?_, HB.out⟩
  have hl : ∀ t : ByteArray, (Lit.string s.data.toList = Lit.string t.data.toList) = (s.data.toList = t.data.toList) := fun t => by simp
  simp only [hl]
  have n1 : tObject.data.toList ≠ tBegin.data.toList := by decide
  have n2 : tObject.data.toList ≠ tOp.data.toList := by decide
  have n3 : tObject.data.toList ≠ tCommit.data.toList := by decide
  have n4 : tObject.data.toList ≠ tAbort.data.toList := by decide
  have n5 : tBegin.data.toList ≠ tOp.data.toList := by decide
  have n6 : tBegin.data.toList ≠ tCommit.data.toList := by decide
  have n7 : tBegin.data.toList ≠ tAbort.data.toList := by decide
  have n8 : tOp.data.toList ≠ tCommit.data.toList := by decide
  have n9 : tOp.data.toList ≠ tAbort.data.toList := by decide
  have n10 : tCommit.data.toList ≠ tAbort.data.toList := by decide
  unfold kindW
  by_cases c1 : s.data.toList = tObject.data.toList
  · rw [c1]; simp [n1, n2, n3, n4]
  · by_cases c2 : s.data.toList = tBegin.data.toList
    · rw [c2]; simp [n1.symm, n5, n6, n7]
    · by_cases c3 : s.data.toList = tOp.data.toList
      · rw [c3]; simp [n2.symm, n5.symm, n8, n9]
      · by_cases c4 : s.data.toList = tCommit.data.toList
        · rw [c4]; simp [n3.symm, n6.symm, n8.symm, n10]
        · by_cases c5 : s.data.toList = tAbort.data.toList
          · rw [c5]; simp [n4.symm, n7.symm, n9.symm, n10.symm]
          · simp [c1, c2, c3, c4, c5]
end Go.Proofs.YtkjnbfjbdlcehaaGreatDoor.P

/- grammar.reader.read: a line's event, or its fault. -/
namespace Go.Proofs.YtkjnbfjbdlcehaaGreatDoor.P
open Go.RowKit Go.Proofs.YtkjnbfjbdlcehaaGreatDoorW.PrintWords Go.Proofs.YtkjnbfjbdlcehaaGreatDoorW.PrintLast Go.Proofs.YtkjnbfjbdlcehaaGreatDoorW.PrintMore Go.Maps
set_option linter.unusedVariables false
set_option linter.unusedSimpArgs false
abbrev Ev := S38
def evS (k : Nat) (nm : ByteArray) : Ev := ⟨(k : Int), nm, ⟨#[]⟩, ⟨0, 0, 0, ⟨0, 0⟩⟩, ⟨0, 0, []⟩⟩
/-- What read makes of a line's words: an event, or a fault. -/
def readL (ws : List Wd) : Option (Sum Ev (Int × Int)) :=
  match ws[0]? with
  | none => none
  | some x0 => if kindW x0.f0 = 0 then some (.inr (6, atW ws 0)) else
    match ws[1]? with
    | none => some (.inr (5, atW ws 1))
    | some x1 => if nameB x1.f0 = false then some (.inr (7, atW ws 1)) else
      if kindW x0.f0 = 1 then (match objL ws with
        | none => none
        | some (.inr b) => some (.inr b)
        | some (.inl (T, N, L)) => some (.inl { evS 1 x1.f0 with f4 := ⟨T, N, L⟩ }))
      else if kindW x0.f0 = 3 then (match opL ws with
        | none => none
        | some (.inr b) => some (.inr b)
        | some (.inl (s, k, a, b, rk, rn)) => some (.inl { evS 3 x1.f0 with f2 := s, f3 := ⟨k, a, b, ⟨rk, rn⟩⟩ }))
      else if 2 < ws.length then some (.inr (5, atW ws 2)) else some (.inl (evS (kindW x0.f0) x1.f0))
/-- The value of an event whose row is v. -/
def evV (x : Ev) (v : Value) : Value := .agg #[.int .i64 x.f0, .string x.f1, .string x.f2, .int .i64 x.f3.f0, .int .i64 x.f3.f1, .int .i64 x.f3.f2, .int .i64 x.f3.f3.f0, .int .i64 x.f3.f3.f1, .int .i64 x.f4.f0, .int .i64 x.f4.f1, v]
def readPost (p B : Nat) : Sum Ev (Int × Int) → Ending → World → Prop
  | .inl x, e, w' => ∃ v, e = .returned (evV x v) ∧ (Kd.int .i64).R 3 w' B (fun k => k ≠ p) v x.f4.f2
  | .inr (E, P), e, w' => e = .panicked (thrown E P)
/-- The reader's block as it is made. -/
def rd0 (x0 : Value) (A : Option Addr) (n c : Nat) : Obj := rdC x0 A n c (.int .i64 0) (.string ⟨#[]⟩) (.string ⟨#[]⟩) (.int .i64 0) (.int .i64 0) (.int .i64 0) (.int .i64 0) (.int .i64 0) (.int .i64 0) (.int .i64 0) (.slice none 0 0)
theorem zeroW (w : World) : (zeroValue 130).run Tryz.prog w = .ok (.agg #[.int .i64 0, .nilFunc]) w := by kernel_rfl
theorem kindW_le (s : ByteArray) : kindW s ≤ 5 := by
  unfold kindW
  repeat (first | omega | split)
theorem Chg.sets2 {S : Nat → Prop} {a b : World} (h : Chg S a b) {g : Nat} (hg : a.heap.size ≤ g) (o : Nat) (vs : List Value) : Chg S a (b.setCells g o vs) := by
  obtain ⟨h1, h2, h3, h4⟩ := setCells_same g vs o b
  exact ⟨h1.trans h.os, h2.trans h.tape, h3.trans h.output, by have h5 := h.size; omega, fun k hk hn => (setCells_far vs o k (fun e => by omega)).trans (h.block k hk hn)⟩
theorem blk_full {w : World} {g : Nat} {cur : Array Value} {e : TypeId} (h : w.heap[g]? = some (.cells cur e (0, 0))) (vs : List Value) (hl : vs.length = cur.size) : (w.setCells g 0 vs).heap[g]? = some (.cells vs.toArray e (0, 0)) := by
  obtain ⟨cur', h1, _, h3⟩ := setCells_row vs 0 w cur h (by omega)
  rw [h1]
  have e1 : cur'.toList = vs := by
    rw [h3, List.take_zero, List.nil_append, Nat.zero_add, List.drop_of_length_le (by rw [Array.length_toList]; omega), List.append_nil]
  rw [← e1]
set_option maxRecDepth 100000 in
set_option maxHeartbeats 4000000 in
theorem read_calls (p : Nat) (x0 : Value) (A : Option Addr) (c : Nat) (ws : List Wd) (wb w : World) (hb : w.heap[p]? = some (rd0 x0 A ws.length c)) (hp : wb.heap.size ≤ p) (hB : Below wb.heap.size wb w) (hC : Kd.C k128 wb A ws.length ws) (hcap : ws.length ≤ c) (ho : WsOk ws) (hG : GOk wb) (r : Sum Ev (Int × Int)) (h : readL ws = some r) :
    Calls Tryz.prog 51 #[.pointer (some ⟨p, 0, none⟩)] w fun e w' => readPost p w.heap.size r e w' ∧ Chg (fun k => k = p) w w' := by
  have hpl := blk_lt hb
  have hlen := ho.len
  have hpos := ho.pos
  obtain ⟨y0, hy0⟩ : ∃ y0, ws[0]? = some y0 := ⟨_, List.getElem?_eq_getElem hpos⟩
  unfold readL at h
  rw [hy0] at h
  simp only at h
  obtain ⟨_, hy0'⟩ := List.getElem?_eq_some_iff.1 hy0
  have HTx := Aside0.mk (show ∀ w' : World, Below wb.heap.size wb w' → w'.cell? ⟨p, 1, none⟩ = some (.slice A ws.length c) → Calls Tryz.prog 77 #[.pointer (some ⟨p, 0, none⟩), .int .i64 0] w' fun e w2 => e = .returned (.string y0.f0) ∧ Drawn0 w' w2 from fun w' hb' hq => by
    have h1 := text_in p A c ws 0 hpos (by omega) w' hq (Kd.C_below hC hb')
    rw [hy0'] at h1
    exact h1)
  have HAt := Aside0.mk (fun w' i (hi : i ≤ 140737488355328) (hb' : Below wb.heap.size wb w') (hq : w'.cell? ⟨p, 1, none⟩ = some (.slice A ws.length c)) => at_any p A c ws i hi ho w' hq (Kd.C_below hC hb'))
  have hys : y0.f0.size ≤ maxLen := by
    have := (ho.at_ y0 (by rw [← hy0']; exact List.getElem_mem _)).2.2
    simp only [maxLen]
    omega
  have HWy := Aside0.mk (fun w' => ways_calls p w')
  have HB0 := Aside0.mk ((below_alloc (Below.refl w.heap.size w) (.cells #[.int .i64 0, .string ⟨#[]⟩, .string ⟨#[]⟩, .int .i64 0, .int .i64 0, .int .i64 0, .int .i64 0, .int .i64 0, .int .i64 0, .int .i64 0, .slice none 0 0] 38)))
  have HBX := Aside0.mk (blk_new w (.cells #[.int .i64 0, .string ⟨#[]⟩, .string ⟨#[]⟩, .int .i64 0, .int .i64 0, .int .i64 0, .int .i64 0, .int .i64 0, .int .i64 0, .int .i64 0, .slice none 0 0] 38))
  go_enter Tryz.func51, Tryz.ntmps51
  go_wp2_with fail
  obtain ⟨w0, hw0⟩ : ∃ w0 : World, w.alloc (.cells #[.int .i64 0, .string ⟨#[]⟩, .string ⟨#[]⟩, .int .i64 0, .int .i64 0, .int .i64 0, .int .i64 0, .int .i64 0, .int .i64 0, .int .i64 0, .slice none 0 0] 38) = w0 := ⟨_, rfl⟩
  rw [hw0] at HB0 HBX ⊢
  refine (HWy.out w0).mono ?_
  rintro e w1 ⟨q, F, rfl, hM, hF, hb1⟩
  have HBp1 := Aside0.mk (((HB0.out.trans (hb1.mono HB0.out.size)).block p hpl).trans hb)
  have HC1 := Aside0.mk (Chg.of_below (fun k => k = p) (HB0.out.trans (hb1.mono HB0.out.size)))
  have HW1 := Aside0.mk (hB.trans ((HB0.out.trans (hb1.mono HB0.out.size)).mono hB.size))
  have HX1 := Aside0.mk ((hb1.block w.heap.size (blk_lt HBX.out)).trans HBX.out)
  have HM1 := Aside0.mk hM
  have HF1 := Aside0.mk (hF y0.f0)
  have HG := Aside0.mk hG
  have HO := Aside0.mk ho
  have HCC := Aside0.mk hC
  have HBB := Aside0.mk hB
  have HPP := Aside0.mk hp
  have HPL := Aside0.mk hpl
  have HCap := Aside0.mk hcap
  have HLen := Aside0.mk hlen
  have HY0 := Aside0.mk hy0
  obtain ⟨s0, hs0⟩ : ∃ s0, y0.f0 = s0 := ⟨_, rfl⟩
  rw [hs0] at HTx hys HF1 h
  obtain ⟨n, hn⟩ : ∃ n, Aside0 (ws.length = n) := ⟨_, ⟨rfl⟩⟩
  have HBp1 := Aside0.mk (show w1.heap[p]? = some (rd0 x0 A n c) by rw [← hn.out]; exact HBp1.out)
  rw [hn.out] at HTx HAt
  clear hM hF hb1 HB0 HBX hb hp hB hC hcap ho hG hpl hlen hpos hy0 hy0' HWy hw0 hs0
  go_wp2_with fail
  refine (HTx.out w1 HW1.out ((blk_cell HBp1.out 1).trans rfl)).mono ?_
  rintro e w2 ⟨rfl, hd⟩
  have hM2 := HM1.out.move (w' := w2) (by obtain ⟨m, hm⟩ := hd.out; rw [hm]; rfl)
  have hlk := hM2.look_ok (string_keyed Tryz.underlying9) Tryz.underlying132 (zeroW w2) (keyS12 s0 hys) trivial
  rw [HF1.out] at hlk
  have HBp2 := Aside0.mk ((hd.below.block p (blk_lt HBp1.out)).trans HBp1.out)
  have HC2 := Aside0.mk (HC1.out.then_below hd.below)
  have HW2 := Aside0.mk (HW1.out.trans (hd.below.mono HW1.out.size))
  have HX2 := Aside0.mk ((hd.below.block w.heap.size (blk_lt HX1.out)).trans HX1.out)
  clear hd hM2 hys HM1 HF1 HBp1 HC1 HW1 HX1 HTx
  by_cases hk0 : kindW s0 = 0
  · rw [if_pos hk0] at h
    simp only [Option.some.injEq] at h
    subst h
    rw [if_pos hk0] at hlk
    have hlk2 : (Instr.lookup 132 (.map (some q)) (.string s0) true).run Tryz.prog w2 = .ok (.tuple #[.agg #[.int .i64 0, .nilFunc], .bool false]) w2 := hlk
    have HF := Aside0.mk (fun w' => fail_calls 6 (atW ws 0) w')
    obtain ⟨r, hr⟩ : ∃ r, Aside0 (atW ws 0 = r) := ⟨_, ⟨rfl⟩⟩
    have HA := Aside0.mk (fun w' hb' hq => HAt.out w' 0 (by omega) hb' hq)
    rw [hr.out] at HA HF
    clear hlk hk0 HAt
    go_upto_region 2 with (fail)
    obtain ⟨w3, hw3⟩ : ∃ w3 : World, w2.alloc (.cells #[.int .i64 0, .nilFunc] 130) = w3 := ⟨_, rfl⟩
    have hba := below_alloc (Below.refl w2.heap.size w2) (.cells #[.int .i64 0, .nilFunc] 130)
    rw [hw3] at hba ⊢
    go_wp2_with fail
    refine (HA.out w3 (HW2.out.trans (hba.mono HW2.out.size)) ((blk_cell ((hba.block p (blk_lt HBp2.out)).trans HBp2.out) 1).trans rfl)).mono ?_
    rintro e w4 ⟨rfl, hb4⟩
    go_wp2_with fail
    refine (HF.out w4).mono ?_
    rintro e w5 ⟨rfl, rfl⟩
    exact ⟨rfl, (show Ending.panicked (thrown 6 r) = Ending.panicked (thrown 6 (atW ws 0)) from by rw [hr.out]), (HC2.out.then_below hba).then_below hb4⟩
  · rw [if_neg hk0] at h
    rw [if_neg hk0] at hlk
    obtain ⟨kk, hkk⟩ : ∃ kk, kindW s0 = kk := ⟨_, rfl⟩
    have hkl := kindW_le s0
    rw [hkk] at hlk h hk0 hkl
    obtain ⟨fg, hfg⟩ : ∃ fg, Aside0 (wayF kk = fg) := ⟨_, ⟨rfl⟩⟩
    have hlk2 : (Instr.lookup 132 (.map (some q)) (.string s0) true).run Tryz.prog w2 = .ok (.tuple #[.agg #[.int .i64 (kk : Int), .func (.func fg) #[.pointer (some ⟨p, 0, none⟩)] #[]], .bool true]) w2 := by
      rw [← hfg.out]
      exact hlk
    clear hlk hkk
    go_upto_region 2 with (fail)
    obtain ⟨w3, hw3⟩ : ∃ w3 : World, w2.alloc (.cells #[.int .i64 (kk : Int), .func (.func fg) #[.pointer (some ⟨p, 0, none⟩)] #[]] 130) = w3 := ⟨_, rfl⟩
    have hba := below_alloc (Below.refl w2.heap.size w2) (.cells #[.int .i64 (kk : Int), .func (.func fg) #[.pointer (some ⟨p, 0, none⟩)] #[]] 130)
    have hbw := blk_new w2 (.cells #[.int .i64 (kk : Int), .func (.func fg) #[.pointer (some ⟨p, 0, none⟩)] #[]] 130)
    rw [hw3] at hba hbw ⊢
    have HBp3 := Aside0.mk ((hba.block p (blk_lt HBp2.out)).trans HBp2.out)
    have HC3 := Aside0.mk (HC2.out.then_below hba)
    have HX3 := Aside0.mk ((hba.block w.heap.size (blk_lt HX2.out)).trans HX2.out)
    have HWp := Aside0.mk (show p ≠ w2.heap.size from fun e => by have := blk_lt HBp2.out; omega)
    have HXp := Aside0.mk (show w.heap.size ≠ p from fun e => by have := HPL.out; omega)
    obtain ⟨bw, hbwe⟩ : ∃ bw, w2.heap.size = bw := ⟨_, rfl⟩
    rw [hbwe] at hbw HWp ⊢
    have k0 := (blk_cell hbw 0).trans rfl
    have HBW3 := Aside0.mk hbw
    have qc := (blk_cell HBp3.out 2).trans rfl
    have qf := blk_frozen HBp3.out 2
    clear hba hw3 HBp2 HC2 HX2 HW2 hlk2 hbw hbwe
    go_upto_region 5 with (fail)
    have HBp4 := Aside0.mk (show (w3.setCell ⟨p, 2, none⟩ (.int .i64 (kk : Int))).heap[p]? = some (rdC x0 A n c (.int .i64 (kk : Int)) (.string ⟨#[]⟩) (.string ⟨#[]⟩) (.int .i64 0) (.int .i64 0) (.int .i64 0) (.int .i64 0) (.int .i64 0) (.int .i64 0) (.int .i64 0) (.slice none 0 0)) from blk_put HBp3.out 2 _ rfl)
    have HC4 := Aside0.mk (HC3.out.set_ (p := ⟨p, 2, none⟩) (.inl rfl) (.int .i64 (kk : Int)))
    have HX4 := Aside0.mk ((Below.heap_setCell w3 ⟨p, 2, none⟩ (.int .i64 (kk : Int)) w.heap.size HXp.out).trans HX3.out)
    have HBW4 := Aside0.mk ((Below.heap_setCell w3 ⟨p, 2, none⟩ (.int .i64 (kk : Int)) bw (Ne.symm HWp.out)).trans HBW3.out)
    obtain ⟨w4, hw4⟩ : ∃ w4 : World, w3.setCell ⟨p, 2, none⟩ (.int .i64 (kk : Int)) = w4 := ⟨_, rfl⟩
    rw [hw4] at HBp4 HC4 HX4 HBW4 ⊢
    have HW4 := Aside0.mk (HBB.out.trans (HC4.out.below HBB.out.size (fun k hk => hk ▸ HPP.out)))
    clear hw4 HBp3 HC3 HX3 HBW3 qc qf k0
    have q1 := Aside0.mk ((blk_cell HBp4.out 1).trans rfl)
    cases h1 : ws[1]? with
    | none =>
      rw [h1] at h
      simp only [Option.some.injEq] at h
      subst h
      have HN := name_no p A c ws 1 (by omega) HO.out w4 (by rw [hn.out]; exact q1.out) (Kd.C_below HCC.out HW4.out) (List.getElem?_eq_none_iff.1 h1)
      obtain ⟨r, hr⟩ : ∃ r, Aside0 (atW ws 1 = r) := ⟨_, ⟨rfl⟩⟩
      rw [hr.out] at HN
      have HN := Aside0.mk HN
      clear h1 hk0 hkl HAt
      go_wp2_with fail
      refine HN.out.mono ?_
      rintro e w5 ⟨rfl, hb5⟩
      exact ⟨rfl, (show Ending.panicked (thrown 5 r) = Ending.panicked (thrown 5 (atW ws 1)) from by rw [hr.out]), HC4.out.then_below hb5⟩
    | some x1 =>
      rw [h1] at h
      simp only at h
      obtain ⟨hl1, hx1⟩ := List.getElem?_eq_some_iff.1 h1
      cases hnb : nameB x1.f0 with
      | false =>
        rw [hnb] at h
        simp only [if_true, Option.some.injEq] at h
        subst h
        have HN := name_bad p A c ws 1 hl1 HO.out (by rw [hx1]; exact hnb) w4 (by rw [hn.out]; exact q1.out) (Kd.C_below HCC.out HW4.out)
        obtain ⟨r, hr⟩ : ∃ r, Aside0 (atW ws 1 = r) := ⟨_, ⟨rfl⟩⟩
        rw [hr.out] at HN
        have HN := Aside0.mk HN
        clear h1 hk0 hkl HAt hl1 hx1 hnb
        go_wp2_with fail
        refine HN.out.mono ?_
        rintro e w5 ⟨rfl, hb5⟩
        exact ⟨rfl, (show Ending.panicked (thrown 7 r) = Ending.panicked (thrown 7 (atW ws 1)) from by rw [hr.out]), HC4.out.then_below hb5⟩
      | true =>
        rw [hnb] at h
        simp only [Bool.true_eq_false, if_false] at h
        have HN := name_ok p A c ws 1 hl1 HO.out (by rw [hx1]; exact hnb) w4 (by rw [hn.out]; exact q1.out) (Kd.C_below HCC.out HW4.out)
        rw [hx1] at HN
        obtain ⟨nm, hnm⟩ : ∃ nm, x1.f0 = nm := ⟨_, rfl⟩
        rw [hnm] at HN h
        have HN := Aside0.mk HN
        clear h1 hl1 hx1 hnb hnm
        go_wp2_with fail
        refine HN.out.mono ?_
        rintro e w5 ⟨rfl, hd⟩
        have HBp5 := Aside0.mk ((hd.below.block p (blk_lt HBp4.out)).trans HBp4.out)
        have HC5 := Aside0.mk (HC4.out.then_below hd.below)
        have HX5 := Aside0.mk ((hd.below.block w.heap.size (blk_lt HX4.out)).trans HX4.out)
        have HBW5 := Aside0.mk ((hd.below.block bw (blk_lt HBW4.out)).trans HBW4.out)
        have qc := (blk_cell HBp5.out 3).trans rfl
        have qf := blk_frozen HBp5.out 3
        clear hd HN HBp4 HC4 HX4 HBW4 HW4 q1
        go_upto_region 6 with (fail)
        have HBp6 := Aside0.mk (show (w5.setCell ⟨p, 3, none⟩ (.string nm)).heap[p]? = some (rdC x0 A n c (.int .i64 (kk : Int)) (.string nm) (.string ⟨#[]⟩) (.int .i64 0) (.int .i64 0) (.int .i64 0) (.int .i64 0) (.int .i64 0) (.int .i64 0) (.int .i64 0) (.slice none 0 0)) from blk_put HBp5.out 3 _ rfl)
        have HC6 := Aside0.mk (HC5.out.set_ (p := ⟨p, 3, none⟩) (.inl rfl) (.string nm))
        have HX6 := Aside0.mk ((Below.heap_setCell w5 ⟨p, 3, none⟩ (.string nm) w.heap.size HXp.out).trans HX5.out)
        have HBW6 := (Below.heap_setCell w5 ⟨p, 3, none⟩ (.string nm) bw (Ne.symm HWp.out)).trans HBW5.out
        obtain ⟨w6, hw6⟩ : ∃ w6 : World, w5.setCell ⟨p, 3, none⟩ (.string nm) = w6 := ⟨_, rfl⟩
        rw [hw6] at HBp6 HC6 HX6 HBW6 ⊢
        have HW6 := Aside0.mk (HBB.out.trans (HC6.out.below HBB.out.size (fun k hk => hk ▸ HPP.out)))
        have k1 := (blk_cell HBW6 1).trans rfl
        have HB6 := Aside0.mk (show w6.heap[p]? = some (rdC x0 A ws.length c (.int .i64 (kk : Int)) (.string nm) (.string ⟨#[]⟩) (.int .i64 0) (.int .i64 0) (.int .i64 0) (.int .i64 0) (.int .i64 0) (.int .i64 0) (.int .i64 0) (.slice none 0 0)) by rw [hn.out]; exact HBp6.out)
        clear hw6 HBp5 HC5 HX5 HBW5 HBW6 qc qf
        by_cases h1k : kk = 1
        · subst h1k
          rw [if_pos rfl] at h
          have hfo : fg = 106 := hfg.out.symm
          subst hfo
          cases ho : objL ws with
          | none => rw [ho] at h; cases h
          | some r1 =>
            rw [ho] at h
            have HOb := Aside0.mk (object_calls p x0 A c ws _ _ _ _ _ _ _ _ _ _ _ wb w6 HB6.out HPP.out HW6.out HCC.out HCap.out HO.out HG.out r1 ho)
            clear hk0 hkl HAt ho
            cases r1 with
            | inr b =>
              obtain ⟨E, P⟩ := b
              simp only [Option.some.injEq] at h
              subst h
              go_wp2_with fail
              refine HOb.out.mono ?_
              rintro e w7 ⟨he, hc7⟩
              obtain rfl : e = .panicked (thrown E P) := he
              exact ⟨rfl, rfl, HC6.out.trans hc7 (fun k hk => .inl hk)⟩
            | inl b =>
              obtain ⟨T, N, L⟩ := b
              simp only [Option.some.injEq] at h
              subst h
              go_wp2_with fail
              refine HOb.out.mono ?_
              rintro e w7 ⟨⟨he, v, hb7, hR7⟩, hc7⟩
              subst he
              obtain ⟨A7, c7, rfl⟩ := Kd.R_slice hR7
              have HBp7 := Aside0.mk hb7
              have HX7 := Aside0.mk ((hc7.block w.heap.size (blk_lt HX6.out) HXp.out).trans HX6.out)
              have HC7 := Aside0.mk (HC6.out.trans hc7 (fun k hk => .inl hk))
              have HR7 := Aside0.mk hR7
              have HZ6 := Aside0.mk (blk_lt HX6.out)
              clear hb7 hR7 hc7 HOb
              have kc0 := (blk_cell HBp7.out 2).trans rfl
              have kc1 := (blk_cell HBp7.out 3).trans rfl
              have kc2 := (blk_cell HBp7.out 4).trans rfl
              have kc3 := (blk_cell HBp7.out 5).trans rfl
              have kc4 := (blk_cell HBp7.out 6).trans rfl
              have kc5 := (blk_cell HBp7.out 7).trans rfl
              have kc6 := (blk_cell HBp7.out 8).trans rfl
              have kc7 := (blk_cell HBp7.out 9).trans rfl
              have kc8 := (blk_cell HBp7.out 10).trans rfl
              have kc9 := (blk_cell HBp7.out 11).trans rfl
              have kc10 := (blk_cell HBp7.out 12).trans rfl
              have HX8 := Aside0.mk (blk_full HX7.out [.int .i64 1, .string nm, .string ⟨#[]⟩, .int .i64 0, .int .i64 0, .int .i64 0, .int .i64 0, .int .i64 0, .int .i64 T, .int .i64 N, .slice A7 L.length c7] rfl)
              go_wp2_with ((with_reducible refine gate_store (t := 38) (p := 2) rfl ?_); refine store_cells (t := 38) (pt := 2) (x := .tmp 36) (g := w.heap.size) (off := 0) rfl rfl rfl rfl (.agg #[.int .i64 1, .string nm, .string ⟨#[]⟩, .int .i64 0, .int .i64 0, .int .i64 0, .int .i64 0, .int .i64 0, .int .i64 T, .int .i64 N, .slice A7 L.length c7]) rfl [.int .i64 1, .string nm, .string ⟨#[]⟩, .int .i64 0, .int .i64 0, .int .i64 0, .int .i64 0, .int .i64 0, .int .i64 T, .int .i64 N, .slice A7 L.length c7] HX7.out rfl (by kernel_rfl) (by simp) (by simp [Value.oneCell']) ?_)
              refine bodyPost_ret (results_cell_row rfl _ _ w.heap.size 38 _ (0, 0) _ rfl HX8.out Tryz.underlying38 rfl (by kernel_rfl)) rfl ?_
              exact ⟨⟨_, rfl, Kd.R_mono (Kd.R_lower (Kd.R_step (Kd.R_bound HR7.out) (fun k hk _ => setCells_far _ _ k (fun e => by have := hk.2.1; have := HZ6.out; omega))) HC6.out.size) (fun k hk => hk.1)⟩, HC7.out.sets2 (Nat.le_refl _) _ _⟩
        · rw [if_neg h1k] at h
          by_cases h3k : kk = 3
          · subst h3k
            rw [if_pos rfl] at h
            have hfo : fg = 108 := hfg.out.symm
            subst hfo
            cases ho : opL ws with
            | none => rw [ho] at h; cases h
            | some r1 =>
              rw [ho] at h
              have HOb := Aside0.mk (op_calls p x0 A c ws _ _ _ _ _ _ _ _ _ _ _ wb w6 HB6.out HPP.out HW6.out HCC.out HCap.out HO.out HG.out r1 ho)
              clear hk0 hkl HAt ho h1k
              cases r1 with
              | inr b =>
                obtain ⟨E, P⟩ := b
                simp only [Option.some.injEq] at h
                subst h
                go_wp2_with fail
                refine HOb.out.mono ?_
                rintro e w7 ⟨he, hc7⟩
                obtain rfl : e = .panicked (thrown E P) := he
                exact ⟨rfl, rfl, HC6.out.trans hc7 (fun k hk => .inl hk)⟩
              | inl b =>
                obtain ⟨s2, k, a, b, rk, rn⟩ := b
                simp only [Option.some.injEq] at h
                subst h
                go_wp2_with fail
                refine HOb.out.mono ?_
                rintro e w7 ⟨⟨he, hb7⟩, hc7⟩
                subst he
                have HBp7 := Aside0.mk hb7
                have HX7 := Aside0.mk ((hc7.block w.heap.size (blk_lt HX6.out) HXp.out).trans HX6.out)
                have HC7 := Aside0.mk (HC6.out.trans hc7 (fun k hk => .inl hk))
                clear hb7 hc7 HOb
                have kc0 := (blk_cell HBp7.out 2).trans rfl
                have kc1 := (blk_cell HBp7.out 3).trans rfl
                have kc2 := (blk_cell HBp7.out 4).trans rfl
                have kc3 := (blk_cell HBp7.out 5).trans rfl
                have kc4 := (blk_cell HBp7.out 6).trans rfl
                have kc5 := (blk_cell HBp7.out 7).trans rfl
                have kc6 := (blk_cell HBp7.out 8).trans rfl
                have kc7 := (blk_cell HBp7.out 9).trans rfl
                have kc8 := (blk_cell HBp7.out 10).trans rfl
                have kc9 := (blk_cell HBp7.out 11).trans rfl
                have kc10 := (blk_cell HBp7.out 12).trans rfl
                have HX8 := Aside0.mk (blk_full HX7.out [.int .i64 3, .string nm, .string s2, .int .i64 k, .int .i64 a, .int .i64 b, .int .i64 rk, .int .i64 rn, .int .i64 0, .int .i64 0, .slice none 0 0] rfl)
                go_wp2_with ((with_reducible refine gate_store (t := 38) (p := 2) rfl ?_); refine store_cells (t := 38) (pt := 2) (x := .tmp 36) (g := w.heap.size) (off := 0) rfl rfl rfl rfl (.agg #[.int .i64 3, .string nm, .string s2, .int .i64 k, .int .i64 a, .int .i64 b, .int .i64 rk, .int .i64 rn, .int .i64 0, .int .i64 0, .slice none 0 0]) rfl [.int .i64 3, .string nm, .string s2, .int .i64 k, .int .i64 a, .int .i64 b, .int .i64 rk, .int .i64 rn, .int .i64 0, .int .i64 0, .slice none 0 0] HX7.out rfl (by kernel_rfl) (by simp) (by simp [Value.oneCell']) ?_)
                refine bodyPost_ret (results_cell_row rfl _ _ w.heap.size 38 _ (0, 0) _ rfl HX8.out Tryz.underlying38 rfl (by kernel_rfl)) rfl ?_
                exact ⟨⟨_, rfl, Kd.R_nil _ _ _ _ _⟩, HC7.out.sets2 (Nat.le_refl _) _ _⟩
          · rw [if_neg h3k] at h
            have hfo : fg = 107 := by rw [← hfg.out, wayF, if_neg h1k, if_neg h3k]
            subst hfo
            by_cases h2 : 2 < ws.length
            · rw [if_pos h2, Option.some.injEq] at h
              subst h
              have HPb := plain_bad p A c ws h2 HO.out w6 (by rw [hn.out]; exact (blk_cell HBp6.out 1).trans rfl) (Kd.C_below HCC.out HW6.out)
              obtain ⟨r, hr⟩ : ∃ r, Aside0 (atW ws 2 = r) := ⟨_, ⟨rfl⟩⟩
              rw [hr.out] at HPb
              have HPb := Aside0.mk HPb
              clear hk0 hkl HAt h1k h3k h2
              go_wp2_with fail
              refine HPb.out.mono ?_
              rintro e w7 ⟨rfl, hb7⟩
              exact ⟨rfl, (show Ending.panicked (thrown 5 r) = Ending.panicked (thrown 5 (atW ws 2)) from by rw [hr.out]), HC6.out.then_below hb7⟩
            · rw [if_neg h2, Option.some.injEq] at h
              subst h
              have HPb := Aside0.mk (plain_ok p A c n (by have := hn.out; omega) w6 ((blk_cell HBp6.out 1).trans rfl))
              clear hk0 hkl HAt h1k h3k h2
              go_wp2_with fail
              refine HPb.out.mono ?_
              rintro e w7 ⟨rfl, hd⟩
              have HBp7 := Aside0.mk ((hd.below.block p (blk_lt HBp6.out)).trans HBp6.out)
              have HX7 := Aside0.mk ((hd.below.block w.heap.size (blk_lt HX6.out)).trans HX6.out)
              have HC7 := Aside0.mk (HC6.out.then_below hd.below)
              clear hd HPb
              have kc0 := (blk_cell HBp7.out 2).trans rfl
              have kc1 := (blk_cell HBp7.out 3).trans rfl
              have kc2 := (blk_cell HBp7.out 4).trans rfl
              have kc3 := (blk_cell HBp7.out 5).trans rfl
              have kc4 := (blk_cell HBp7.out 6).trans rfl
              have kc5 := (blk_cell HBp7.out 7).trans rfl
              have kc6 := (blk_cell HBp7.out 8).trans rfl
              have kc7 := (blk_cell HBp7.out 9).trans rfl
              have kc8 := (blk_cell HBp7.out 10).trans rfl
              have kc9 := (blk_cell HBp7.out 11).trans rfl
              have kc10 := (blk_cell HBp7.out 12).trans rfl
              have HX8 := Aside0.mk (blk_full HX7.out [.int .i64 (kk : Int), .string nm, .string ⟨#[]⟩, .int .i64 0, .int .i64 0, .int .i64 0, .int .i64 0, .int .i64 0, .int .i64 0, .int .i64 0, .slice none 0 0] rfl)
              go_wp2_with ((with_reducible refine gate_store (t := 38) (p := 2) rfl ?_); refine store_cells (t := 38) (pt := 2) (x := .tmp 36) (g := w.heap.size) (off := 0) rfl rfl rfl rfl (.agg #[.int .i64 (kk : Int), .string nm, .string ⟨#[]⟩, .int .i64 0, .int .i64 0, .int .i64 0, .int .i64 0, .int .i64 0, .int .i64 0, .int .i64 0, .slice none 0 0]) rfl [.int .i64 (kk : Int), .string nm, .string ⟨#[]⟩, .int .i64 0, .int .i64 0, .int .i64 0, .int .i64 0, .int .i64 0, .int .i64 0, .int .i64 0, .slice none 0 0] HX7.out rfl (by kernel_rfl) (by simp) (by simp [Value.oneCell']) ?_)
              refine bodyPost_ret (results_cell_row rfl _ _ w.heap.size 38 _ (0, 0) _ rfl HX8.out Tryz.underlying38 rfl (by kernel_rfl)) rfl ?_
              exact ⟨⟨_, rfl, Kd.R_nil _ _ _ _ _⟩, HC7.out.sets2 (Nat.le_refl _) _ _⟩
end Go.Proofs.YtkjnbfjbdlcehaaGreatDoor.P
