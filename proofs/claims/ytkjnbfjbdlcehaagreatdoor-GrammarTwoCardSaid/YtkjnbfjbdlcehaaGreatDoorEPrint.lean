/- grammar.Print: events' text, or why there is none. -/
import Derived.Test.YtkjnbfjbdlcehaaGreatDoorEJoinS
import Derived.Test.YtkjnbfjbdlcehaaGreatDoorEGram4
import Derived.Test.YtkjnbfjbdlcehaaGreatDoorELine12
namespace Go.Proofs.YtkjnbfjbdlcehaaGreatDoor.P
open Go.RowKit Go.Proofs.YtkjnbfjbdlcehaaGreatDoorW.PrintWords Go.Proofs.YtkjnbfjbdlcehaaGreatDoorW.PrintLast Go.Proofs.YtkjnbfjbdlcehaaGreatDoorW.PrintMore
set_option linter.unusedVariables false
set_option linter.unusedSimpArgs false
def lineE (x : S38) : Option (ByteArray × Int) := grammar_Line.f x.f0 x.f1 x.f2 x.f3.f0 x.f3.f1 x.f3.f2 x.f3.f3.f0 x.f3.f3.f1 x.f4.f0 x.f4.f1 x.f4.f2
def printG : List S38 → Bool → List UInt8 → Option (ByteArray × Int)
  | [], long, acc => if acc.length ≤ 140737488355328 then (if (long || decide (67108864 < acc.length)) = true then some (⟨#[]⟩, 4) else some (⟨acc.toArray⟩, 0)) else none
  | x :: xs, long, acc => (lineE x).bind fun r => if r.2 = 0 then (if acc.length + r.1.size + 1 ≤ 140737488355328 then printG xs (long || decide (65536 < r.1.size)) ((acc ++ r.1.data.toList) ++ [10]) else none) else some (⟨#[]⟩, r.2)
def grammar_Print.f (l : List S38) : Option (ByteArray × Int) := if l.length ≤ 140737488355328 then printG l false [] else none
theorem results_print (tmps : Array Value) (w : World) (a : ByteArray) (b : Int) (h2 : tmps.getD 2 undef = .string a) (h3 : tmps.getD 3 undef = .int .i64 b) :
    (results Tryz.f13 tmps).run Tryz.prog w = .ok (.tuple #[.string a, .int .i64 b]) w := by
  have e2 : tmps[2]?.getD undef = .string a := by simpa using h2
  have e3 : tmps[3]?.getD undef = .int .i64 b := by simpa using h3
  simp [results, Tryz.results13, e2, e3, go_sem]
set_option maxRecDepth 100000 in
set_option maxHeartbeats 4000000 in
theorem grammar_Print.calls (A0 : Option Addr) (c0 : Nat) (l0 : List S38) (r1 : ByteArray) (r2 : Int) (w : World) (hr0 : Kd.C k38 w A0 l0.length l0) (hc0 : l0.length ≤ c0) (h : grammar_Print.f l0 = some (r1, r2)) :
    Calls Tryz.prog 13 #[.slice A0 l0.length c0] w fun e w' => e = .returned (.tuple #[.string r1, .int .i64 r2]) ∧ Below w.heap.size w w' := by
  unfold grammar_Print.f at h
  by_cases hll : l0.length ≤ 140737488355328
  · rw [if_pos hll] at h
    have HR := Aside0.mk hr0
    have HH := Aside0.mk h
    have HLL := Aside0.mk hll
    clear hr0 hc0 h hll
    obtain ⟨w0, hw0⟩ : ∃ w0 : World, w.alloc (.cells #[.pointer none, .slice none 0 0] 59) = w0 := ⟨_, rfl⟩
    have HI0 := Aside0.mk (show Lib.IsBuilder 59 5 w.heap.size w.heap.size (Lib.byteCells []) w0 from hw0 ▸ Lib.fresh_isBuilder 59 5 w)
    have HB0 := Aside0.mk (show Below w.heap.size w w0 from hw0 ▸ below_alloc (Below.refl w.heap.size w) _)
    go_enter Tryz.func13, Tryz.ntmps13
    go_upto_region 3 with (fail)
    try rw [hw0]
    clear hw0
    go_upto_region 4 with (fail)
    go_loopg [5, 12] (l0.length + 1) (fun g v5 v12 wr => ∃ (k : Nat) (lo : Bool) (acc : List UInt8), k ≤ l0.length ∧ Aside0 (k + g = l0.length + 1) ∧ v12 = .int .i64 k ∧ v5 = .bool lo ∧ Aside0 (printG (l0.drop k) lo acc = some (r1, r2)) ∧ Aside0 (Lib.IsBuilder 59 5 w.heap.size w.heap.size (Lib.byteCells acc) wr) ∧ Aside0 (Below w.heap.size w wr))
    case atStart => exact ⟨0, false, [], by omega, ⟨by omega⟩, rfl, rfl, ⟨HH.out⟩, HI0, HB0⟩
    case round =>
      obtain ⟨k, lo, acc, hk, hg, rfl, rfl, hp, hi, hb⟩ := hrel
      by_cases hkl : k < l0.length
      · obtain ⟨ad, A1, c1, rfl, hx⟩ := at_T38 (Kd.C_below HR.out hb.out) (k : Int) (by omega) (by omega)
        have hxk : rd_T38 l0 (k : Int) = l0[k] := by simp [rd_T38, List.getD, hkl]
        rw [hxk] at hx
        obtain ⟨ev, hev⟩ : ∃ ev, l0[k] = ev := ⟨_, rfl⟩
        rw [hev] at hx
        have hpp := hp.out
        rw [List.drop_eq_getElem_cons hkl, hev] at hpp
        simp only [Int.toNat_natCast] at hx
        obtain ⟨x0, x1, x2, x3, x4, x5, x6, x7, x8, x9, x10, hxl, hxr⟩ := hx
        have HXL := Aside0.mk hxl
        have HXR := Aside0.mk hxr
        have HPP := Aside0.mk hpp
        have b0 := decide_eq_true (show ((k : Nat) : Int) < (l0.length : Int) by omega)
        have b1 : (0 : Int) ≤ (k : Int) := by omega
        have b2 : (k : Int) < (l0.length : Int) := by omega
        clear hxk hev hpp hxl hxr
        go_upto_region 6 with (fail)
        have hbx := blk_new wr (.cells #[.int .i64 ev.f0, .string ev.f1, .string ev.f2, .int .i64 ev.f3.f0, .int .i64 ev.f3.f1, .int .i64 ev.f3.f2, .int .i64 ev.f3.f3.f0, .int .i64 ev.f3.f3.f1, .int .i64 ev.f4.f0, .int .i64 ev.f4.f1, .slice A1 ev.f4.f2.length c1] 38)
        have hba := below_alloc hb.out (.cells #[.int .i64 ev.f0, .string ev.f1, .string ev.f2, .int .i64 ev.f3.f0, .int .i64 ev.f3.f1, .int .i64 ev.f3.f2, .int .i64 ev.f3.f3.f0, .int .i64 ev.f3.f3.f1, .int .i64 ev.f4.f0, .int .i64 ev.f4.f1, .slice A1 ev.f4.f2.length c1] 38)
        have hbs := below_alloc (Below.refl wr.heap.size wr) (.cells #[.int .i64 ev.f0, .string ev.f1, .string ev.f2, .int .i64 ev.f3.f0, .int .i64 ev.f3.f1, .int .i64 ev.f3.f2, .int .i64 ev.f3.f3.f0, .int .i64 ev.f3.f3.f1, .int .i64 ev.f4.f0, .int .i64 ev.f4.f1, .slice A1 ev.f4.f2.length c1] 38)
        obtain ⟨w3, hw3⟩ : ∃ w3 : World, wr.alloc (.cells #[.int .i64 ev.f0, .string ev.f1, .string ev.f2, .int .i64 ev.f3.f0, .int .i64 ev.f3.f1, .int .i64 ev.f3.f2, .int .i64 ev.f3.f3.f0, .int .i64 ev.f3.f3.f1, .int .i64 ev.f4.f0, .int .i64 ev.f4.f1, .slice A1 ev.f4.f2.length c1] 38) = w3 := ⟨_, rfl⟩
        rw [hw3] at hbx hba hbs ⊢
        have HI3 := Aside0.mk (bld_below hi.out hbs)
        have HC3 := Aside0.mk (Kd.C_below HXR.out hbs)
        have HBX := Aside0.mk hbx
        have HB3 := Aside0.mk hba
        clear hbx hba hbs hw3 x0 x1 x2 x3 x4 x5 x6 x7 x8 x9 x10
        cases hle : lineE ev with
        | none => have := HPP.out; rw [printG, hle] at this; cases this
        | some r =>
          obtain ⟨s, e⟩ := r
          have hp2 := HPP.out
          rw [printG, hle] at hp2
          simp only [Option.bind_some] at hp2
          have HCall := Aside0.mk (fun w' (hw' : Below w3.heap.size w3 w') => grammar_Line.calls ev.f0 ev.f1 ev.f2 ev.f3.f0 ev.f3.f1 ev.f3.f2 ev.f3.f3.f0 ev.f3.f3.f1 ev.f4.f0 ev.f4.f1 A1 c1 ev.f4.f2 s e w' (Kd.C_below HC3.out hw') HXL.out hle)
          clear hle HPP
          have hx0 := (blk_cell HBX.out 0).trans rfl
          have hx1 := (blk_cell HBX.out 1).trans rfl
          have hx2 := (blk_cell HBX.out 2).trans rfl
          have hx3 := (blk_cell HBX.out 3).trans rfl
          have hx4 := (blk_cell HBX.out 4).trans rfl
          have hx5 := (blk_cell HBX.out 5).trans rfl
          have hx6 := (blk_cell HBX.out 6).trans rfl
          have hx7 := (blk_cell HBX.out 7).trans rfl
          have hx8 := (blk_cell HBX.out 8).trans rfl
          have hx9 := (blk_cell HBX.out 9).trans rfl
          have hx10 := (blk_cell HBX.out 10).trans rfl
          go_wp2_with (go_at_call 15; refine (HCall.out _ (Below.refl _ _)).mono ?_)
          rintro e' w4 ⟨rfl, hb4⟩
          have HB4 := Aside0.mk (HB3.out.trans (hb4.mono HB3.out.size))
          have HI4 := Aside0.mk (bld_below HI3.out hb4)
          clear hb4 hx0 hx1 hx2 hx3 hx4 hx5 hx6 hx7 hx8 hx9 hx10 HCall HC3 HXR HBX
          by_cases ce : e = 0
          · subst ce
            rw [if_pos rfl] at hp2
            by_cases hln : acc.length + s.size + 1 ≤ 140737488355328
            · rw [if_pos hln] at hp2
              have HP2 := Aside0.mk hp2
              have HLN := Aside0.mk hln
              clear hp2 hln
              go_upto_region 9 with (fail)
              cases lo
              all_goals
                go_upto_region 10 with (fail)
                go_wp2_with (go_at_call 30; refine (bld_str w.heap.size w.heap.size acc s _ HI4.out (by have := HLN.out; omega) HB4.out.size).mono ?_)
                rintro e' w5 ⟨rfl, hi5, hb5⟩
                have HB5 := Aside0.mk (HB4.out.trans hb5)
                have HI5 := Aside0.mk hi5
                have HL5 := Aside0.mk (show (acc ++ s.data.toList).length + 1 ≤ 140737488355328 by have := HLN.out; rw [List.length_append, ← Lib.size_eq]; omega)
                clear hi5 hb5
                go_wp2_with (go_at_call 31; refine (bld_byte w.heap.size w.heap.size (acc ++ s.data.toList) 10 _ HI5.out HL5.out HB5.out.size).mono ?_)
                rintro e' w6 ⟨rfl, hi6, hb6⟩
                have HB6 := Aside0.mk (HB5.out.trans hb6)
                have HI6 := Aside0.mk hi6
                clear hi6 hb6
                have hll := HLL.out
                go_wp2
                go_roundg (gk - 1)
                case measure => have := hg.out; omega
                case rel => first | exact ⟨k + 1, true, (acc ++ s.data.toList) ++ [10], by omega, ⟨by have := hg.out; omega⟩, by go_num, rfl, ⟨by simpa using HP2.out⟩, HI6, HB6⟩ | exact ⟨k + 1, decide (65536 < s.size), (acc ++ s.data.toList) ++ [10], by omega, ⟨by have := hg.out; omega⟩, by go_num, by simp only [Value.bool.injEq]; exact decide_eq_decide.mpr (by omega), ⟨by simpa using HP2.out⟩, HI6, HB6⟩
            · rw [if_neg hln] at hp2
              cases hp2
          · rw [if_neg ce] at hp2
            simp only [Option.some.injEq, Prod.mk.injEq] at hp2
            obtain ⟨rfl, rfl⟩ := hp2
            go_wp2
            exact bodyPost_ret (results_print _ _ _ _ rfl rfl) rfl ⟨rfl, HB4.out⟩
      · have hkk : k = l0.length := by omega
        have hpp := hp.out
        rw [List.drop_of_length_le (by omega), printG] at hpp
        by_cases hla : acc.length ≤ 140737488355328
        · rw [if_pos hla] at hpp
          have HPP := Aside0.mk hpp
          have HI := Aside0.mk hi.out
          have HB := Aside0.mk hb.out
          clear hpp hkk hi hb hp
          have b0 := decide_eq_false (show ¬ ((k : Nat) : Int) < (l0.length : Int) by omega)
          go_upto_region 13 with (fail)
          cases lo
          · go_wp2_with (go_at_call 32; refine (bld_len w.heap.size w.heap.size acc _ HI.out).mono ?_)
            rintro e' w6 ⟨rfl, rfl⟩
            have hpq := HPP.out
            by_cases hlo : 67108864 < acc.length
            · rw [if_pos (by simp [hlo])] at hpq
              simp only [Option.some.injEq, Prod.mk.injEq] at hpq
              obtain ⟨rfl, rfl⟩ := hpq
              have b3 : (67108864 : Int) < (acc.length : Int) := by omega
              have b4 := decide_eq_true b3
              go_wp2
              exact bodyPost_ret (results_print _ _ _ _ rfl rfl) rfl ⟨rfl, HB.out⟩
            · rw [if_neg (by simp [hlo])] at hpq
              simp only [Option.some.injEq, Prod.mk.injEq] at hpq
              obtain ⟨rfl, rfl⟩ := hpq
              have b4 := decide_eq_false (show ¬ (67108864 : Int) < (acc.length : Int) by omega)
              go_wp2_with (go_at_call 33; refine (bld_string w.heap.size w.heap.size acc _ HI.out HB.out.size).mono ?_)
              rintro e' w7 ⟨rfl, hb7⟩
              have HB7 := Aside0.mk (HB.out.trans hb7)
              clear hb7
              go_wp2
              exact bodyPost_ret (results_print _ _ _ _ rfl rfl) rfl ⟨rfl, HB7.out⟩
          · have hpq := HPP.out
            rw [if_pos (by simp)] at hpq
            simp only [Option.some.injEq, Prod.mk.injEq] at hpq
            obtain ⟨rfl, rfl⟩ := hpq
            go_wp2
            exact bodyPost_ret (results_print _ _ _ _ rfl rfl) rfl ⟨rfl, HB.out⟩
        · rw [if_neg hla] at hpp
          cases hpp
  · rw [if_neg hll] at h
    cases h
end Go.Proofs.YtkjnbfjbdlcehaaGreatDoor.P
