/- armisticelaw03.NamesBoth: names and numbers belong together one by one. -/
import Derived.Test.YtfnonbbakkcoaaaEDuo03
import Derived.Shelf.SlSortCmp.QuietGrown
namespace Go.Proofs.Ytfnonbbakkcoaaa.P
open Go.RowKit Go.Proofs.YtfnonbbakkcoaaaW.PrintWords Go.Proofs.YtfnonbbakkcoaaaW.PrintLast Go.Proofs.YtfnonbbakkcoaaaW.PrintMore Go.Maps Go.Sort
set_option linter.unusedVariables false
set_option linter.unusedSimpArgs false
attribute [local go_sem ↓] Go.wp_at_zero Go.wp_at_succ
theorem Of_grown (p : Nat) (S : Nat → Prop) (l : List ByteArray) (s : ByteArray) (hs : s.size ≤ maxLen) (i : Nat) (hn : nidx l s = some i) (w : World) (h : TbO w p S l) :
    Calls Try.prog 16 #[.pointer (some ⟨p, 0, none⟩), .string s] w fun e w' => e = .returned (.tuple #[.int .i64 (i : Int), .int .i64 0]) ∧ ∃ q os, w' = grow (w.drewN q) os := by
  obtain ⟨q, n, F, v, h⟩ := h
  have q1 := h.c1
  have hlk := h.look s hs
  have HN := Aside0.mk (none_no p q w q1)
  clear h
  rw [hn] at hlk
  have hlk2 : (Instr.lookup 42 (.map (some q)) (.string s) true).run Try.prog w = .ok (.tuple #[.agg #[.int .i64 (i : Int)], .bool true]) w := hlk
  clear hlk
  clear hn
  go_enter Try.func16, Try.ntmps16
  go_wp2_with fail
  refine HN.out.mono ?_
  rintro e w1 ⟨rfl, rfl⟩
  go_wp2
  go_ret2
  exact ⟨rfl, 0, _, (show w1.drewN 0 = w1 from rfl) ▸ alloc_eq_grow w1 _⟩
theorem of_grown (p : Nat) (S : Nat → Prop) (l : List ByteArray) (s : ByteArray) (hs : s.size ≤ maxLen) (i : Nat) (hn : nidx l s = some i) (w : World) (h : TbO w p S l) :
    Calls Try.prog 25 #[.pointer (some ⟨p, 0, none⟩), .string s, .int .i64 (i : Int), .int .i64 0] w fun e w' => e = .returned (.bool true) ∧ ∃ q os, w' = grow (w.drewN q) os := by
  have HA := Aside0.mk (Of_grown p S l s hs i hn w h)
  clear h hn
  go_enter Try.func25, Try.ntmps25
  go_wp2_with fail
  refine HA.out.mono ?_
  rintro e w' ⟨rfl, hB⟩
  go_wp2
  go_ret
  exact ⟨by simp, hB⟩
/-- Block p is a table of l; v is a row of the same names; the two lie apart; both came after w0. -/
structure Duo4 (w0 w : World) (p : Nat) (v : Value) (l1 l2 : List ByteArray) : Prop where
  bel : Below w0.heap.size w0 w
  ex : ∃ S, TbO w p S l1 ∧ Kd.string.R 9 w w0.heap.size (fun k => ¬ S k) v l2 ∧ (∀ k, S k → w0.heap.size ≤ k ∧ k < w.heap.size)
section
variable {w0 w w' : World} {p : Nat} {v : Value} {l1 l2 : List ByteArray}
theorem Duo4.tb (h : Duo4 w0 w p v l1 l2) : ∃ S, TbO w p S l1 := by
  obtain ⟨S1, h1, _⟩ := h.ex
  exact ⟨S1, h1⟩
theorem Duo4.slice (h : Duo4 w0 w p v l1 l2) : ∃ A c, v = .slice A l2.length c ∧ l2.length ≤ c ∧ Kd.string.C w A l2.length l2 := by
  obtain ⟨S1, h1, h2, _⟩ := h.ex
  exact Kd.R_reads h2
theorem Duo4.below (h : Duo4 w0 w p v l1 l2) (hb : Below w.heap.size w w') : Duo4 w0 w' p v l1 l2 := by
  obtain ⟨S, h1, h2, h3⟩ := h.ex
  exact ⟨h.bel.trans (hb.mono h.bel.size), S, h1.below hb, Kd.R_below h2 hb, fun k hk => ⟨(h3 k hk).1, Nat.lt_of_lt_of_le (h3 k hk).2 hb.size⟩⟩
theorem Duo4.add (h : Duo4 w0 w p v l1 l2) (s : ByteArray) (hs : s.size ≤ 140737488351232) (hl : l1.length < 5000) :
    Calls Try.prog 12 #[.pointer (some ⟨p, 0, none⟩), .string s] w fun e w' => e = .returned (addV l1 s) ∧ Duo4 w0 w' p v (addN l1 s) l2 := by
  obtain ⟨S, h1, h2, h3⟩ := h.ex
  refine (Add_calls p _ l1 s hs hl w h1).mono ?_
  rintro e w' ⟨rfl, hT, hC⟩
  have hz := h.bel.size
  refine ⟨rfl, h.bel.trans (hC.below hz (fun k hk => (h3 k hk).1)), _, hT.bound, ?_, fun k hk => ⟨?_, hk.2⟩⟩
  · have h4 := Kd.R_bound h2
    exact Kd.R_mono (Kd.R_step h4 (fun k hk hl => hC.block k hl hk.1)) (fun k hk h5 => by
      rcases h5.1 with h5 | h5
      · exact hk.1 h5
      · have := hk.2.2.1; omega)
  · rcases hk.1 with hk | hk
    · exact (h3 k hk).1
    · omega
/-- The row has grown by a text. -/
theorem Duo4.app (h : Duo4 w0 w p v l1 l2) {v' : Value} {l3 : List ByteArray} {S : Nat → Prop} (hT : TbO w p S l1) (hS : ∀ k, S k → w0.heap.size ≤ k ∧ k < w.heap.size) (hv : ∀ k, v.ownBlock = some k → ¬ S k) (hR : Kd.string.R 9 w' w0.heap.size (fun k => ¬ S k) v' l3) (hg : w.grownBy w' v.ownBlock) (hb : Below w0.heap.size w0 w') : Duo4 w0 w' p v' l1 l3 :=
  ⟨hb, S, hT.step (fun k hk hl => hg.block k hl (fun e => hv k e.symm hk)), hR, fun k hk => ⟨(hS k hk).1, Nat.lt_of_lt_of_le (hS k hk).2 hg.size⟩⟩
end
set_option maxHeartbeats 8000000 in
set_option maxRecDepth 100000 in
theorem Both_calls (A : Option Addr) (c : Nat) (l : List ByteArray) (w : World) (hr : Kd.string.C w A l.length l) (hc : l.length ≤ c) (hl : l.length ≤ 140737488355328) :
    Calls Try.prog 6 #[.slice A l.length c] w fun e w' => e = .returned (.bool true) ∧ Below w.heap.size w w' := by
  obtain ⟨r, hr1, hr2⟩ := long_f l hl
  have HL := Aside0.mk (fun w' (hb : Below w.heap.size w w') => armisticelaw03_long.calls 200 A c l r w' (Kd.C_below hr hb) hc hr1)
  have HR := Aside0.mk hr
  have HR2 := Aside0.mk hr2
  clear hr hr1 hr2 hl hc
  go_enter Try.func6, Try.ntmps6
  go_wp2_with fail
  refine (Known_calls w).mono ?_
  rintro e w1 ⟨rfl, hb⟩
  have HB1 := Aside0.mk hb
  clear hb
  go_wp2_with fail
  refine (New_calls w1).mono ?_
  rintro e w2 ⟨p, rfl, hp, hT, hb⟩
  have HB2 := Aside0.mk (HB1.out.trans (hb.mono HB1.out.size))
  have HT2 := Aside0.mk (show TbO w2 p (fun k => w.heap.size ≤ k ∧ k < w2.heap.size) [] from hT.bound.mono (fun k hk => ⟨by have := HB1.out.size; omega, hk.2⟩))
  clear hT hb HB1
  go_wp2_with fail
  refine (HL.out w2 HB2.out).mono ?_
  rintro e w3 ⟨rfl, hd⟩
  have HD := Aside0.mk (show Duo4 w w3 p (.slice none 0 0) [] [] from ⟨HB2.out.trans (hd.below.mono HB2.out.size), _, HT2.out.below hd.below, Kd.R_nil _ _ _ _ _, fun k hk => ⟨hk.1, Nat.lt_of_lt_of_le hk.2 hd.below.size⟩⟩)
  clear hd HL HB2 HT2
  cases r with
  | true =>
    go_wp2
    go_ret
    exact ⟨rfl, HD.out.bel⟩
  | false =>
    obtain ⟨hlen, hsz⟩ := HR2.out rfl
    have HSZ := Aside0.mk hsz
    clear hsz HR2
    go_wp2_with fail
    go_loopg [5, 6] (l.length + 1) (fun g v5 v6 wr => ∃ (k : Nat) (L : List ByteArray), k ≤ l.length ∧ Aside0 (k + g = l.length + 1) ∧ v6 = .int .i64 k ∧ Aside0 (Duo4 w wr p v5 L L) ∧ Aside0 (L.length ≤ k) ∧ Aside0 (L.Nodup ∧ ∀ y ∈ L, y.size ≤ 60))
    case atStart => exact ⟨0, [], by omega, ⟨by omega⟩, rfl, HD, ⟨Nat.le_refl _⟩, ⟨List.nodup_nil, by simp⟩⟩
    case round =>
      clear HD
      obtain ⟨wa, rfl⟩ : ∃ wa : World, wa = wr := ⟨_, rfl⟩
      obtain ⟨ga, rfl⟩ : ∃ ga : Nat, ga = gk := ⟨_, rfl⟩
      obtain ⟨k, L, hk, hg, rfl, D, hLk, hLn⟩ := hrel
      by_cases c1 : k < l.length
      · obtain ⟨ad, rfl, hcell⟩ := Kd.at_string HR.out (k : Int) (by omega) (by omega)
        simp only [Int.toNat_natCast] at hcell
        have hxk : rdOf ByteArray.empty l (k : Int) = l[k] := by simp [rdOf, List.getD, c1]
        have hxl := HSZ.out _ (List.getElem_mem c1)
        obtain ⟨x, hxx⟩ : ∃ x, Aside0 (l[k] = x) := ⟨_, ⟨rfl⟩⟩
        rw [hxx.out] at hxk hxl
        rw [hxk] at hcell
        have HCE := Aside0.mk (fun W' (hb : Below w.heap.size w W') => (hb.cell (World.block_lt_of_cell? w _ hcell)).trans hcell)
        have b0 := decide_eq_true (show ((k : Nat) : Int) < (l.length : Int) by omega)
        have b1 : (0 : Int) ≤ (k : Int) := by omega
        have b2 : (k : Int) < (l.length : Int) := by omega
        have hc0 := HCE.out wa D.out.bel
        have hl5 : L.length < 5000 := by have := hLk.out; omega
        have HA := Aside0.mk (D.out.add x (by omega) hl5)
        have HCk := Aside0.mk (fun w' => Check_calls x w' (by omega))
        obtain ⟨Av, cv, hve, hcv, _⟩ := D.out.slice
        subst hve
        clear hcell hxk
        cases hb : nameB x with
        | false =>
          have ha := addV_name (l := L) hb
          rw [ha.1, ha.2] at HA
          rw [show errN (nameB x) = 7 by rw [hb]; rfl] at HCk
          clear ha hb
          go_wp2_with fail
          refine HA.out.mono ?_
          rintro e w6 ⟨rfl, hD⟩
          have D6 := Aside0.mk hD
          have hc6 := HCE.out w6 hD.bel
          clear hD HA hc0
          go_wp2_with fail
          go_quiet ((go_at_call 14; exact Calls.quiet_of ((HCk.out _).mono (fun e w' h => ⟨h.1, h.2.out⟩))))
          go_wp2
          go_roundg (ga - 1)
          case measure => have := hg.out; omega
          case rel => exact ⟨k + 1, L, by omega, ⟨by have := hg.out; omega⟩, by go_num, ⟨D6.out.below (pw_below_drewN (Below.refl _ _) _)⟩, ⟨by have := hLk.out; omega⟩, hLn⟩
        | true =>
          cases hn : nidx L x with
          | some i =>
            have ha := addV_has hb hn
            rw [ha.1, ha.2] at HA
            have HNI := Aside0.mk hn
            clear ha hb hn
            go_wp2_with fail
            refine HA.out.mono ?_
            rintro e w6 ⟨rfl, hD⟩
            have D6 := Aside0.mk hD
            have hc6 := fun n os => cell_grown (World.block_lt_of_cell? w6 _ (HCE.out w6 hD.bel)) (HCE.out w6 hD.bel) n os
            have HDg := Aside0.mk (fun n os => D6.out.below (w' := grow (w6.drewN n) os) ⟨rfl, rfl, rfl, by simp, fun k hk => heap_grow_old _ _ hk⟩)
            have HPl := Aside0.mk (show ∀ n os, Calls Try.prog 26 #[.slice Av L.length cv, .string x] (grow (w6.drewN n) os) fun e w' => e = .returned (.int .i64 (i : Int)) ∧ ∃ q os', w' = grow ((grow (w6.drewN n) os).drewN q) os' from fun n os => by
              obtain ⟨A2, c2, e2, h2, h3⟩ := (HDg.out n os).slice
              cases e2
              have h4 := armisticelaw03_place.calls (L.length + 1) Av cv L x (placeN L x) _ h3 h2 (place_f L x (by omega))
              have e5 : placeN L x = (i : Int) := by unfold placeN; rw [HNI.out]
              rw [e5] at h4
              exact h4.mono (fun e w' h => ⟨h.1, by obtain ⟨m, hm⟩ := h.2.out; exact ⟨m, #[], by rw [hm, grow_empty]⟩⟩))
            have HOf := Aside0.mk (show ∀ n os, Calls Try.prog 25 #[.pointer (some ⟨p, 0, none⟩), .string x, .int .i64 (i : Int), .int .i64 0] (grow (w6.drewN n) os) fun e w' => e = .returned (.bool true) ∧ ∃ q os', w' = grow ((grow (w6.drewN n) os).drewN q) os' from fun n os => by
              obtain ⟨S, hs⟩ := (HDg.out n os).tb
              exact of_grown p S L x (by simp only [maxLen]; omega) i HNI.out _ hs)
            clear hD HA hc0
            go_wp2_with fail
            have mixed : Try.prog.follows .mixedOrders = true := by kernel_rfl
            go_quiet_grown (first | (go_at_call 26; exact Calls.grown_of (HPl.out _ _)) | (go_at_call 25; exact Calls.grown_of (HOf.out _ _)))
            go_wp2
            go_roundg (ga - 1)
            case measure => have := hg.out; omega
            case rel => exact ⟨k + 1, L, by omega, ⟨by have := hg.out; omega⟩, by go_num, ⟨HDg.out _ _⟩, ⟨by have := hLk.out; omega⟩, hLn⟩
          | none =>
            have ha := addV_new hb hn
            rw [ha.1, ha.2] at HA
            rw [show errN (nameB x) = 0 by rw [hb]; rfl] at HCk
            have HNI := Aside0.mk (nidx_none.1 hn)
            clear ha hb hn
            go_wp2_with fail
            refine HA.out.mono ?_
            rintro e w6 ⟨rfl, hD⟩
            have D6 := Aside0.mk hD
            have hc6 := HCE.out w6 hD.bel
            clear hD HA hc0
            go_wp2_with fail
            refine (HCk.out w6).mono ?_
            rintro e w7 ⟨rfl, hd⟩
            have D7 := Aside0.mk (D6.out.below hd.below)
            have hc7 := HCE.out w7 D7.out.bel
            clear hd hc6 D6
            obtain ⟨S, hs1, hs2, hs3⟩ := D7.out.ex
            have HS1 := Aside0.mk hs1
            have HS2 := Aside0.mk hs2
            have HS3 := Aside0.mk hs3
            have HM := Aside0.mk (show ∀ W : World, Kd.string.M W w.heap.size (fun _ => False) x [.string x] from fun W => rfl)
            have HLen := Aside0.mk (show (L.length + 1) * 16 ≤ 140737488355328 by omega)
            clear hs1 hs2 hs3
            go_wp2_with ((with_reducible refine gate_builtin (b := .append) (xs := #[.tmp 48, .tmp 53]) rfl ?_); at_builtin; refine Kd.R_append Kd.string (w0 := w) w.heap.size rfl (.tmp 48) (.tmp 53) 22 9 (.string ⟨#[]⟩) 16 rfl Try.underlying22 infoS rfl (by decide) (by decide) _ L x [.string x] (fun k => ¬ S k) (fun _ => False) rfl rfl (HM.out _) (fun _ h => h.elim) (fun k hk h => absurd (HS3.out k h).2 (by omega)) HS2.out D7.out.bel D7.out.bel.size HLen.out ?_; intro v8 w8 hR8 hb8 hg8 _; obtain ⟨A8, c8, rfl⟩ := Kd.R_slice hR8; have HR8 := Aside0.mk hR8; have hd8 := D7.out.app HS1.out HS3.out (fun k hk => HS2.out.1 k hk) hR8 hg8 hb8; rw [show (L ++ [x]).length = L.length + 1 from by simp] at hd8; have HD8 := Aside0.mk hd8; clear hd8; have hc8 := HCE.out w8 hb8; clear hR8 hb8 hg8 hc7)
            go_quiet (fail)
            go_wp2
            go_roundg (ga - 1)
            case measure => have := hg.out; omega
            case rel => exact ⟨k + 1, L ++ [x], by omega, ⟨by have := hg.out; omega⟩, by go_num, ⟨HD8.out.below (pw_below_drewN (Below.refl _ _) _)⟩, ⟨by have := hLk.out; simp; omega⟩, ⟨List.nodup_append.2 ⟨hLn.out.1, List.pairwise_singleton _ _, fun a ha b hb e => HNI.out (by rw [List.mem_singleton.1 hb] at e; exact e ▸ ha)⟩, fun y hy => by
              rcases List.mem_append.1 hy with hy | hy
              · exact hLn.out.2 y hy
              · rw [List.mem_singleton.1 hy]; exact hxl⟩⟩
      · have b0 := decide_eq_false (show ¬ ((k : Nat) : Int) < (l.length : Int) by omega)
        obtain ⟨Av, cv, hve, hcv, hCv⟩ := D.out.slice
        subst hve
        have HCv := Aside0.mk hCv
        have hlL : L.length ≤ 80 := by have := hLk.out; omega
        clear hCv
        go_wp2_with fail
        go_loopg [9] (L.length + 1) (fun g2 v9 wr2 => ∃ (i : Nat), i ≤ L.length ∧ Aside0 (i + g2 = L.length + 1) ∧ v9 = .int .i64 i ∧ Aside0 (Below wa.heap.size wa wr2))
        case atStart => exact ⟨0, by omega, ⟨by omega⟩, rfl, ⟨Below.refl _ _⟩⟩
        case round =>
          obtain ⟨wb, rfl⟩ : ∃ wb : World, wb = wr := ⟨_, rfl⟩
          obtain ⟨i, hi, hgi, rfl, hB⟩ := hrel
          by_cases c2 : i < L.length
          · obtain ⟨ad, rfl, hcell⟩ := Kd.at_string (Kd.C_below HCv.out hB.out) (i : Int) (by omega) (by omega)
            simp only [Int.toNat_natCast] at hcell
            have hxk : rdOf ByteArray.empty L (i : Int) = L[i] := by simp [rdOf, List.getD, c2]
            have hnv : nameV L (i : Int) = .tuple #[.string L[i], .int .i64 0] := by
              unfold nameV
              rw [if_pos ⟨by omega, by omega⟩, hxk]
            have hov : ofN L L[i] = .tuple #[.int .i64 (i : Int), .int .i64 0] := by
              unfold ofN
              rw [nidx_at hLn.out.1 c2]
            have hxs := hLn.out.2 _ (List.getElem_mem c2)
            obtain ⟨x, hxx⟩ : ∃ x, L[i] = x := ⟨_, rfl⟩
            rw [hxk] at hcell
            rw [hxx] at hcell hnv hov hxs
            obtain ⟨S, hs⟩ := D.out.tb
            have HNm := Aside0.mk (Name_calls p S L (i : Int) wb (hs.below hB.out))
            rw [hnv] at HNm
            have HOf := Aside0.mk (fun w' (hb : Below wa.heap.size wa w') (hx : x.size ≤ maxLen) => of_calls p S L x hx w' (hs.below hb) (i : Int) 0 hov)
            have hbe : (x.toList == x.toList) = true := beq_ba_true rfl
            have hbf : (x.toList != x.toList) = false := bne_eq_false_iff_eq.2 rfl
            have b3 := decide_eq_true (show ((i : Nat) : Int) < (L.length : Int) by omega)
            have b4 : (0 : Int) ≤ (i : Int) := by omega
            have b5 : (i : Int) < (L.length : Int) := by omega
            clear hxk hnv hov hxx hs
            go_wp2_with fail
            refine HNm.out.mono ?_
            rintro e w6 ⟨rfl, hd⟩
            have HB6 := Aside0.mk (hB.out.trans (hd.below.mono hB.out.size))
            have hcell6 := cell_later hd.below hcell
            clear hd hcell HNm
            go_wp2_with fail
            refine (HOf.out w6 HB6.out (by simp only [maxLen]; omega)).mono ?_
            rintro e w7 ⟨rfl, hb⟩
            have HB7 := Aside0.mk (HB6.out.trans (hb.mono HB6.out.size))
            clear hb HOf
            go_wp2
            go_roundg (gk - 1)
            case measure => have := hgi.out; omega
            case rel => exact ⟨i + 1, by omega, ⟨by have := hgi.out; omega⟩, by go_num, HB7⟩
          · have b3 := decide_eq_false (show ¬ ((i : Nat) : Int) < (L.length : Int) by omega)
            obtain ⟨S, hs⟩ := D.out.tb
            have HLn := Aside0.mk (Len_calls p S L wb (hs.below hB.out))
            clear hs
            go_wp2_with fail
            refine HLn.out.mono ?_
            rintro e w6 ⟨rfl, rfl⟩
            go_wp2
            go_ret
            exact ⟨by simp, D.out.bel.trans (hB.out.mono D.out.bel.size)⟩
end Go.Proofs.Ytfnonbbakkcoaaa.P
