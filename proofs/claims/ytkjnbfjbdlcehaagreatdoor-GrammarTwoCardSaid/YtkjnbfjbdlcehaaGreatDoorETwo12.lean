/- armisticelaw12.GrammarTwo: events of two texts are those of both. -/
import Derived.Test.YtkjnbfjbdlcehaaGreatDoorM12One
import Derived.Test.YtkjnbfjbdlcehaaGreatDoorEAwake12
import Derived.Test.YtkjnbfjbdlcehaaGreatDoorPx2
namespace Go.Proofs.YtkjnbfjbdlcehaaGreatDoor.P
open Go.RowKit Go.Proofs.YtkjnbfjbdlcehaaGreatDoorW.PrintWords Go.Proofs.YtkjnbfjbdlcehaaGreatDoorW.PrintLast Go.Proofs.YtkjnbfjbdlcehaaGreatDoorW.PrintMore
set_option linter.unusedVariables false
set_option linter.unusedSimpArgs false
theorem copy12 (l : List Int) (h : l.length ≤ 100000) : armisticekit_CopyBytes.f l = some l := by
  unfold armisticekit_CopyBytes.f
  simp only [Option.bind_some, List.length_nil, Nat.zero_add, List.nil_append]
  rw [if_pos (by omega)]
set_option maxHeartbeats 8000000 in
set_option maxRecDepth 100000 in
theorem two_calls (A : Option Addr) (c : Nat) (x : List Int) (B : Option Addr) (d : Nat) (y : List Int) (w : World) (hr0 : Kd.C (Kd.int .u8) w A x.length x) (hc0 : x.length ≤ c) (hr1 : Kd.C (Kd.int .u8) w B y.length y) (hc1 : y.length ≤ d) (hux : isU8 x = true) (huy : isU8 y = true) (hG : GOk w) :
    Calls Tryz.prog 9 #[.slice A x.length c, .slice B y.length d] w fun e w' => e = .returned (.bool true) ∧ Below w.heap.size w w' := by
  have HK := Aside0.mk (armisticelaw12_awake.calls true w hG rfl)
  have HG := Aside0.mk (fun w' (hb : Below w.heap.size w w') => hG.below hb)
  by_cases hx : x.length ≤ 800
  · by_cases hy : y.length ≤ 800
    · obtain ⟨la, ea, pa, lb, eb, pb, lh, eh, ph, hpa, hpb, hph, hcase⟩ := Z12.two_facts x y hux huy hx hy
      have HR0 := Aside0.mk hr0
      have HR1 := Aside0.mk hr1
      have HX := Aside0.mk hx
      have HY := Aside0.mk hy
      have HC0 := Aside0.mk hc0
      have HC1 := Aside0.mk hc1
      have HPA := Aside0.mk hpa
      have HPB := Aside0.mk hpb
      have HPH := Aside0.mk hph
      have HCS := Aside0.mk hcase
      obtain ⟨n, hn⟩ : ∃ n, Aside0 (x.length = n) := ⟨_, ⟨rfl⟩⟩
      obtain ⟨m, hm⟩ : ∃ m, Aside0 (y.length = m) := ⟨_, ⟨rfl⟩⟩
      have HN1 : Aside0 ((x ++ [10]).length = n + 1) := ⟨by rw [List.length_append, hn.out]; rfl⟩
      rw [hn.out] at HR0 HX HC0 ⊢
      rw [hm.out] at HR1 HY HC1 ⊢
      have b0 := decide_eq_false (show ¬ (800 : Int) < (n : Int) by have := HX.out; omega)
      have b1 := decide_eq_false (show ¬ (800 : Int) < (m : Int) by have := HY.out; omega)
      have b2 := decide_eq_false (show ¬ 800 < n by have := HX.out; omega)
      have b3 := decide_eq_false (show ¬ 800 < m by have := HY.out; omega)
      clear hr0 hr1 hc0 hc1 hx hy hpa hpb hph hcase hux huy hG
      go_enter Tryz.func9, Tryz.ntmps9
      go_wp2_with fail
      refine HK.out.mono ?_
      rintro e w1 ⟨rfl, hb1⟩
      have HB1 := Aside0.mk hb1
      clear hb1 HK
      have HCp := armisticekit_CopyBytes.calls A c x x w1 (by rw [hn.out]; exact Kd.C_below HR0.out HB1.out) (by rw [hn.out]; exact HC0.out) (copy12 x (by rw [hn.out]; have := HX.out; omega))
      rw [hn.out] at HCp
      have HCp := Aside0.mk HCp
      go_wp2_with fail
      refine HCp.out.mono ?_
      rintro e w2 ⟨v2, rfl, hR, hb2⟩
      obtain ⟨A2, c2, rfl⟩ := Kd.R_slice hR
      rw [hn.out] at hR
      rw [hn.out]
      have HR2 := Aside0.mk hR
      have HB2 := Aside0.mk hb2
      have HLen : Aside0 ((x.length + 1) * 1 ≤ 140737488355328) := ⟨by rw [hn.out]; have := HX.out; omega⟩
      clear hR hb2 HCp
      go_wp2_with ((with_reducible refine gate_builtin (b := .append) (xs := #[.tmp 23, .tmp 24]) rfl ?_); at_builtin; refine Kd.R_append (Kd.int .u8) (w0 := w1) w1.heap.size rfl (.tmp 23) (.tmp 24) 41 5 (.int .u8 0) 1 rfl Tryz.underlying41 info5 rfl (by decide) (by omega) (.slice A2 n c2) x 10 [.int .u8 10] (fun _ => True) (fun _ => False) rfl rfl rfl (fun _ hk => hk.elim) (fun _ _ => trivial) HR2.out HB2.out HB2.out.size HLen.out ?_; intro v3 w3 hR3 hb3 hg3 hat3; have HR3 := Aside0.mk hR3; have HB3 := Aside0.mk (HB1.out.trans (hb3.mono HB1.out.size)); clear hR3 hb3 hg3 hat3 HR2 HB2; obtain ⟨A3, c3, e3⟩ := Kd.R_slice HR3.out; subst e3; rw [HN1.out] at HR3 ⊢)
      have HPr := grammar_Parse.calls A3 c3 (x ++ [10]) la ea pa w3 (Kd.R_reads' HR3.out).2.2 (by rw [HN1.out]; exact (Kd.R_reads' HR3.out).2.1) (HG.out w3 HB3.out) HPA.out
      rw [HN1.out] at HPr
      have HPr := Aside0.mk HPr
      go_wp2_with fail
      refine HPr.out.mono ?_
      rintro e w4 ⟨v4, rfl, hS4, hb4⟩
      obtain ⟨A4, c4, rfl⟩ := Kd.S_slice hS4
      obtain ⟨na, hna⟩ : ∃ na, Aside0 (la.length = na) := ⟨_, ⟨rfl⟩⟩
      rw [hna.out] at hS4 ⊢
      have HS4 := Aside0.mk (Kd.S_mono (Kd.S_bound hS4) (fun k hk => (hk.2.1 : w3.heap.size ≤ k)))
      have HOwnA : Aside0 (∀ k, (Value.slice A4 na c4).ownBlock = some k → k < w4.heap.size) := ⟨fun k hk => Kd.S_lt hS4 k hk⟩
      have HB34 := Aside0.mk hb4
      clear hS4 hb4 HPr
      go_upto_region 6 with (fail)
      have hba := below_alloc (Below.refl w4.heap.size w4) (.cells #[.int .i64 ea, .int .i64 pa] 44)
      have hbx := blk_new w4 (.cells #[.int .i64 ea, .int .i64 pa] 44)
      obtain ⟨w5, hw5⟩ : ∃ w5 : World, w4.alloc (.cells #[.int .i64 ea, .int .i64 pa] 44) = w5 := ⟨_, rfl⟩
      rw [hw5] at hba hbx ⊢
      have HBX5 := Aside0.mk hbx
      have HB35 := Aside0.mk (HB34.out.trans (hba.mono HB34.out.size))
      have HS5 := Aside0.mk (Kd.S_below HS4.out hba)
      have HB5 := Aside0.mk (HB3.out.trans (HB35.out.mono HB3.out.size))
      have hz5 : Aside0 (w4.heap.size < w5.heap.size) := ⟨blk_lt hbx⟩
      clear hba hbx hw5 HS4 HB34
      have HPr := grammar_Parse.calls B d y lb eb pb w5 (by rw [hm.out]; exact Kd.C_below HR1.out HB5.out) (by rw [hm.out]; exact HC1.out) (HG.out w5 HB5.out) HPB.out
      rw [hm.out] at HPr
      have HPr := Aside0.mk HPr
      go_wp2_with fail
      refine HPr.out.mono ?_
      rintro e w6 ⟨v6, rfl, hS6, hb6⟩
      obtain ⟨A6, c6, rfl⟩ := Kd.S_slice hS6
      obtain ⟨nb, hnb⟩ : ∃ nb, Aside0 (lb.length = nb) := ⟨_, ⟨rfl⟩⟩
      rw [hnb.out] at hS6 ⊢
      have HS6 := Aside0.mk (Kd.S_mono (Kd.S_bound hS6) (fun k hk => (hk.2.1 : w5.heap.size ≤ k)))
      have HB56 := Aside0.mk hb6
      clear hS6 hb6 HPr
      go_upto_region 7 with (fail)
      have hba := below_alloc (Below.refl w6.heap.size w6) (.cells #[.int .i64 eb, .int .i64 pb] 44)
      have hbx := blk_new w6 (.cells #[.int .i64 eb, .int .i64 pb] 44)
      obtain ⟨w7, hw7⟩ : ∃ w7 : World, w6.alloc (.cells #[.int .i64 eb, .int .i64 pb] 44) = w7 := ⟨_, rfl⟩
      rw [hw7] at hba hbx ⊢
      have HBX7 := Aside0.mk hbx
      have HB57 := Aside0.mk (HB56.out.trans (hba.mono HB56.out.size))
      have HS7 := Aside0.mk (Kd.S_below HS6.out hba)
      have HB7 := Aside0.mk (HB5.out.trans (HB57.out.mono HB5.out.size))
      have hz7 : Aside0 (w6.heap.size < w7.heap.size) := ⟨blk_lt hbx⟩
      clear hba hbx hw7 HS6 HB56
      have HR7 := Aside0.mk (Kd.R_below (Kd.R_below HR3.out HB35.out) HB57.out)
      have HCp := armisticekit_CopyBytes.calls A3 c3 (x ++ [10]) (x ++ [10]) w7 (Kd.R_reads' HR7.out).2.2 (by rw [HN1.out]; exact (Kd.R_reads' HR7.out).2.1) (copy12 _ (by rw [HN1.out]; have := HX.out; omega))
      rw [HN1.out] at HCp
      have HCp := Aside0.mk HCp
      go_wp2_with fail
      refine HCp.out.mono ?_
      rintro e w8 ⟨v8, rfl, hR, hb8⟩
      obtain ⟨A8, c8, rfl⟩ := Kd.R_slice hR
      rw [HN1.out] at hR
      rw [HN1.out]
      have HR8 := Aside0.mk hR
      have HB8 := Aside0.mk hb8
      have HLen2 : Aside0 (((x ++ [10]).length + m) * 1 ≤ 140737488355328) := ⟨by rw [HN1.out]; have := HX.out; have := HY.out; omega⟩
      have HRow := Aside0.mk (Kd.C_below HR1.out (HB7.out.trans (HB8.out.mono HB7.out.size)))
      have HN2 : Aside0 ((x ++ [10] ++ y).length = n + 1 + m) := ⟨by rw [List.length_append, HN1.out, hm.out]⟩
      clear hR hb8 HCp
      go_wp2_with ((with_reducible refine gate_builtin (b := .append) (xs := #[.tmp 38, .tmp 39]) rfl ?_); at_builtin; refine Kd.R_append_rows (Kd.int .u8) (w0 := w7) w7.heap.size rfl (.tmp 38) (.tmp 39) 41 5 (.int .u8 0) 1 rfl Tryz.underlying41 info5 rfl (by decide) (by omega) (.slice A8 (n + 1) c8) (x ++ [10]) y B m d (fun _ => True) (fun _ => False) rfl rfl HR8.out HRow.out (fun _ _ h => h) (fun _ h => h.elim) (fun _ _ => trivial) HB8.out HB8.out.size HLen2.out ?_; intro v9 w9 hR9 hb9 hg9 hat9; have HR9 := Aside0.mk hR9; have HB79 := Aside0.mk hb9; have HB9 := Aside0.mk (HB7.out.trans (hb9.mono HB7.out.size)); clear hR9 hb9 hg9 hat9 HR8 HB8 HRow; obtain ⟨A9, c9, e9⟩ := Kd.R_slice HR9.out; subst e9; rw [HN2.out] at HR9 ⊢)
      have HPr := grammar_Parse.calls A9 c9 (x ++ [10] ++ y) lh eh ph w9 (Kd.R_reads' HR9.out).2.2 (by rw [HN2.out]; exact (Kd.R_reads' HR9.out).2.1) (HG.out w9 HB9.out) HPH.out
      rw [HN2.out] at HPr
      have HPr := Aside0.mk HPr
      go_wp2_with fail
      refine HPr.out.mono ?_
      rintro e w10 ⟨v10, rfl, hS10, hb10⟩
      obtain ⟨A10, c10, rfl⟩ := Kd.S_slice hS10
      obtain ⟨nh, hnh⟩ : ∃ nh, Aside0 (lh.length = nh) := ⟨_, ⟨rfl⟩⟩
      rw [hnh.out] at hS10 ⊢
      have HS10 := Aside0.mk (Kd.S_mono (Kd.S_bound hS10) (fun k hk => (hk.2.1 : w9.heap.size ≤ k)))
      have HB910 := Aside0.mk hb10
      clear hS10 hb10 HPr
      go_upto_region 8 with (fail)
      have hba := below_alloc (Below.refl w10.heap.size w10) (.cells #[.int .i64 eh, .int .i64 ph] 44)
      have hbx := blk_new w10 (.cells #[.int .i64 eh, .int .i64 ph] 44)
      obtain ⟨w11, hw11⟩ : ∃ w11 : World, w10.alloc (.cells #[.int .i64 eh, .int .i64 ph] 44) = w11 := ⟨_, rfl⟩
      rw [hw11] at hba hbx ⊢
      have hz11 : Aside0 (w10.heap.size < w11.heap.size) := ⟨blk_lt hbx⟩
      have HB911 := Aside0.mk (HB910.out.trans (hba.mono HB910.out.size))
      have HB711 := Aside0.mk (HB79.out.trans (HB911.out.mono HB79.out.size))
      have HB511 := Aside0.mk (HB57.out.trans (HB711.out.mono HB57.out.size))
      have HB311 := Aside0.mk (HB35.out.trans (HB511.out.mono HB35.out.size))
      have HB11 := Aside0.mk (HB3.out.trans (HB311.out.mono HB3.out.size))
      have HSh := Aside0.mk (Kd.S_below HS10.out hba)
      have HSa := Aside0.mk (Kd.S_below HS5.out HB511.out)
      have HSb := Aside0.mk (Kd.S_below HS7.out HB711.out)
      have hx5 := (HB511.out.block w4.heap.size (blk_lt HBX5.out)).trans HBX5.out
      have hx7 := (HB711.out.block w6.heap.size (blk_lt HBX7.out)).trans HBX7.out
      have p0 := (blk_cell hx5 0).trans rfl
      have p1 := (blk_cell hx5 1).trans rfl
      have q0 := (blk_cell hx7 0).trans rfl
      have q1 := (blk_cell hx7 1).trans rfl
      have r0 := (blk_cell hbx 0).trans rfl
      have r1 := (blk_cell hbx 1).trans rfl
      have HSz := Aside0.mk (And.intro HB35.out.size (And.intro HB57.out.size (And.intro HB79.out.size (And.intro HB911.out.size HB910.out.size))))
      clear hba hbx hw11 hx5 hx7 HS10 HS5 HS7 HBX5 HBX7
      rcases HCS.out with ⟨rfl, rfl, rfl, rfl, rfl, hsame, hll⟩ | ⟨hno, hnh0, rfl, hor⟩
      · have HSM := Aside0.mk hsame
        have HLL : Aside0 ((la.length + nb) * 120 ≤ 140737488355328) := ⟨by rw [← hnb.out]; omega⟩
        have HNh : Aside0 (na + nb = nh) := ⟨by rw [← hna.out, ← hnb.out, ← hnh.out, List.length_append]⟩
        have HNa := Aside0.mk (Kd.N_mono (ok' := fun _ => True) (Kd.S_N HSa.out) (fun _ _ => trivial))
        have HFb := Aside0.mk (Kd.N_F (Kd.S_N HSb.out))
        have HFb' : Aside0 (Kd.F k38 w11 (fun k => w5.heap.size ≤ k) A6 nb lb) := ⟨by rw [← hnb.out]; rw [← hnb.out] at HFb; exact HFb.out⟩
        have HLL2 : Aside0 ((la.length + nb) * 120 ≤ 140737488355328) := HLL
        clear hsame hll
        go_wp2_with ((with_reducible refine gate_builtin (b := .append) (xs := #[.tmp 60, .tmp 61]) rfl ?_); (try (refine gate_guard (by rfl) ?_; dsimp only)); at_builtin; refine Kd.N_append_rows k38 (w0 := w3) w3.heap.size rfl (.tmp 60) (.tmp 61) 22 38 zeroEv 120 rfl Tryz.underlying22 infoEv rfl (by decide) (by decide) (.slice A4 na c4) la lb A6 nb c6 (fun _ => True) (fun k => w5.heap.size ≤ k) rfl rfl HNa.out HFb'.out (fun k hk => ⟨trivial, fun he => by have := HOwnA.out k he.symm; have := hz5.out; omega⟩) (fun _ _ => trivial) HB311.out HB311.out.size HLL2.out ?_; intro v12 w12 hN12 hb12 hg12 hat12; have HN12 := Aside0.mk hN12; have HB12 := Aside0.mk (HB3.out.trans (hb12.mono HB3.out.size)); have HS12 := Aside0.mk (Kd.S_step HSh.out (fun k hk hlt => hg12.block k hlt (fun he => by have := HOwnA.out k he.symm; have := HSz.out; have := hz5.out; have := hz7.out; omega))); clear hN12 hb12 hg12 hat12 HNa HFb HFb'; obtain ⟨A12, c12, e12⟩ := Kd.N_slice HN12.out; subst e12; rw [hnh.out] at HN12 ⊢)
        have HQ := armisticekit_SameEvents.calls A10 c10 (la ++ lb) A12 c12 (la ++ lb) true w12 (Kd.S_reads' HS12.out).2.2 (by rw [hnh.out]; exact (Kd.S_reads' HS12.out).2.1) (Kd.N_reads' HN12.out).2.2 (by rw [hnh.out]; exact (Kd.N_reads' HN12.out).2.1) HSM.out
        rw [hnh.out] at HQ
        have HQ := Aside0.mk HQ
        go_wp2_with fail
        refine HQ.out.mono ?_
        rintro e w13 ⟨rfl, hd13⟩
        have HB13 := Aside0.mk (HB12.out.trans (hd13.mono HB12.out.size))
        clear hd13 HQ
        go_wp2
        exact bodyPost_ret (results_tmp rfl _ _ _) rfl ⟨by simp, HB13.out⟩
      · obtain rfl : nh = 0 := hnh.out.symm
        have d1 : (eh != 0) = true := bne_iff_ne.mpr hnh0
        have d1' : (eh == 0) = false := beq_eq_false_iff_ne.mpr hnh0
        clear hnh0
        by_cases c1 : ea = 0
        · have c2 : eb ≠ 0 := fun h => hno ⟨c1, h⟩
          subst c1
          have d2 : (eb == 0) = false := beq_eq_false_iff_ne.mpr c2
          clear hno hor c2
          go_wp2
          exact bodyPost_ret (results_tmp rfl _ _ _) rfl ⟨by simp, HB11.out⟩
        · have d3 : (ea == 0) = false := beq_eq_false_iff_ne.mpr c1
          by_cases c2 : eb = 0
          · subst c2
            clear hno hor c1
            go_wp2
            exact bodyPost_ret (results_tmp rfl _ _ _) rfl ⟨by simp, HB11.out⟩
          · have d4 : (eb == 0) = false := beq_eq_false_iff_ne.mpr c2
            by_cases c3 : eh = ea
            · have d5 : (eh == ea) = true := beq_iff_eq.mpr c3
              clear hno hor c1 c2 c3
              go_wp2
              exact bodyPost_ret (results_tmp rfl _ _ _) rfl ⟨by simp, HB11.out⟩
            · have d5 : (eh == ea) = false := beq_eq_false_iff_ne.mpr c3
              have d6 : (eh == eb) = true := by
                rcases hor with h | h | h | h
                · exact absurd h c1
                · exact absurd h c2
                · exact absurd h c3
                · exact beq_iff_eq.mpr h
              clear hno hor c1 c2 c3
              go_wp2
              exact bodyPost_ret (results_tmp rfl _ _ _) rfl ⟨by simp, HB11.out⟩
    · obtain ⟨n, hn⟩ : ∃ n, Aside0 (x.length = n) := ⟨_, ⟨rfl⟩⟩
      obtain ⟨m, hm⟩ : ∃ m, Aside0 (y.length = m) := ⟨_, ⟨rfl⟩⟩
      rw [hn.out] at hx ⊢
      rw [hm.out] at hy ⊢
      have b0 := decide_eq_false (show ¬ (800 : Int) < (n : Int) by omega)
      have b1 := decide_eq_true (show (800 : Int) < (m : Int) by omega)
      have b2 := decide_eq_false (show ¬ 800 < n by omega)
      have b3 := decide_eq_true (show 800 < m by omega)
      clear hr0 hr1 hx hy
      go_enter Tryz.func9, Tryz.ntmps9
      go_wp2_with fail
      refine HK.out.mono ?_
      rintro e w1 ⟨rfl, hb1⟩
      go_wp2
      go_ret
      exact ⟨rfl, hb1⟩
  · obtain ⟨n, hn⟩ : ∃ n, Aside0 (x.length = n) := ⟨_, ⟨rfl⟩⟩
    obtain ⟨m, hm⟩ : ∃ m, Aside0 (y.length = m) := ⟨_, ⟨rfl⟩⟩
    rw [hn.out] at hx ⊢
    rw [hm.out]
    have b0 := decide_eq_true (show (800 : Int) < (n : Int) by omega)
    have b2 := decide_eq_true (show 800 < n by omega)
    clear hr0 hr1 hx
    go_enter Tryz.func9, Tryz.ntmps9
    go_wp2_with fail
    refine HK.out.mono ?_
    rintro e w1 ⟨rfl, hb1⟩
    go_wp2
    go_ret
    exact ⟨rfl, hb1⟩
end Go.Proofs.YtkjnbfjbdlcehaaGreatDoor.P
