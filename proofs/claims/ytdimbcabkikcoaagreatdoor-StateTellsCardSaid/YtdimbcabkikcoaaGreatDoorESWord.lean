/- state.Word: a type's word. -/
import Derived.Test.YtdimbcabkikcoaaGreatDoorESText
namespace Go.Proofs.YtdimbcabkikcoaaGreatDoor.P
open Go.RowKit Go.Proofs.YtdimbcabkikcoaaGreatDoorW.PrintWords Go.Proofs.YtdimbcabkikcoaaGreatDoorW.PrintLast Go.Proofs.YtdimbcabkikcoaaGreatDoorW.PrintMore
set_option linter.unusedVariables false
set_option linter.unusedSimpArgs false
def state_Word.f (k : Int) : Option (ByteArray × Int) := if 1 ≤ k ∧ k ≤ 5 then some (wordB k, 0) else some (⟨#[]⟩, 8)
set_option maxHeartbeats 4000000 in
set_option maxRecDepth 100000 in
theorem state_Word.calls (k : Int) (r0 : ByteArray) (r1 : Int) (w : World) (h : state_Word.f k = some (r0, r1)) :
    Calls Tryz.prog 12 #[.int .i64 k] w fun e w' => e = .returned (.tuple #[.string r0, .int .i64 r1]) ∧ Below w.heap.size w w' := by
  unfold state_Word.f at h
  by_cases hk : 1 ≤ k ∧ k ≤ 5
  · rw [if_pos hk] at h
    simp only [Option.some.injEq, Prod.mk.injEq] at h
    obtain ⟨rfl, rfl⟩ := h
    have HT := Aside0.mk (typed_yes hk)
    have h5 : k = 1 ∨ k = 2 ∨ k = 3 ∨ k = 4 ∨ k = 5 := by omega
    clear hk
    rcases h5 with rfl | rfl | rfl | rfl | rfl
    · have hw : wordB 1 = ⟨#[99, 111, 117, 110, 116, 101, 114]⟩ := by rfl
      rw [hw]
      have hx := fun w' => (show (Instr.index 51 (.agg kindsA) (.int .i64 0)).run Tryz.prog w' = .ok (.agg #[.string ⟨#[99, 111, 117, 110, 116, 101, 114]⟩, (.func (.func 38) #[] #[])]) w' from by kernel_rfl)
      have hf := fun w' => (show (Instr.field 50 (.agg #[.string ⟨#[99, 111, 117, 110, 116, 101, 114]⟩, (.func (.func 38) #[] #[])]) 0).run Tryz.prog w' = .ok (.string ⟨#[99, 111, 117, 110, 116, 101, 114]⟩) w' from by kernel_rfl)
      have HX := Aside0.mk hx
      have HF := Aside0.mk hf
      clear hw hx hf
      go_enter Tryz.func12, Tryz.ntmps12
      go_wp2_with fail
      refine (HT.out _).mono ?_
      rintro e w1 ⟨rfl, hb1⟩
      have HB1 := Aside0.mk hb1
      clear hb1
      go_wp2_with fail
      refine (kinds_calls _).mono ?_
      rintro e w2 ⟨rfl, hb2⟩
      have HB2 := Aside0.mk hb2
      clear hb2
      have hx := HX.out
      have hf := HF.out
      go_wp2
      go_ret2
      exact ⟨rfl, HB1.out.trans (HB2.out.mono HB1.out.size)⟩
    · have hw : wordB 2 = ⟨#[115, 101, 116]⟩ := by rfl
      rw [hw]
      have hx := fun w' => (show (Instr.index 51 (.agg kindsA) (.int .i64 1)).run Tryz.prog w' = .ok (.agg #[.string ⟨#[115, 101, 116]⟩, (.func (.func 39) #[] #[])]) w' from by kernel_rfl)
      have hf := fun w' => (show (Instr.field 50 (.agg #[.string ⟨#[115, 101, 116]⟩, (.func (.func 39) #[] #[])]) 0).run Tryz.prog w' = .ok (.string ⟨#[115, 101, 116]⟩) w' from by kernel_rfl)
      have HX := Aside0.mk hx
      have HF := Aside0.mk hf
      clear hw hx hf
      go_enter Tryz.func12, Tryz.ntmps12
      go_wp2_with fail
      refine (HT.out _).mono ?_
      rintro e w1 ⟨rfl, hb1⟩
      have HB1 := Aside0.mk hb1
      clear hb1
      go_wp2_with fail
      refine (kinds_calls _).mono ?_
      rintro e w2 ⟨rfl, hb2⟩
      have HB2 := Aside0.mk hb2
      clear hb2
      have hx := HX.out
      have hf := HF.out
      go_wp2
      go_ret2
      exact ⟨rfl, HB1.out.trans (HB2.out.mono HB1.out.size)⟩
    · have hw : wordB 3 = ⟨#[109, 97, 112]⟩ := by rfl
      rw [hw]
      have hx := fun w' => (show (Instr.index 51 (.agg kindsA) (.int .i64 2)).run Tryz.prog w' = .ok (.agg #[.string ⟨#[109, 97, 112]⟩, (.func (.func 40) #[] #[])]) w' from by kernel_rfl)
      have hf := fun w' => (show (Instr.field 50 (.agg #[.string ⟨#[109, 97, 112]⟩, (.func (.func 40) #[] #[])]) 0).run Tryz.prog w' = .ok (.string ⟨#[109, 97, 112]⟩) w' from by kernel_rfl)
      have HX := Aside0.mk hx
      have HF := Aside0.mk hf
      clear hw hx hf
      go_enter Tryz.func12, Tryz.ntmps12
      go_wp2_with fail
      refine (HT.out _).mono ?_
      rintro e w1 ⟨rfl, hb1⟩
      have HB1 := Aside0.mk hb1
      clear hb1
      go_wp2_with fail
      refine (kinds_calls _).mono ?_
      rintro e w2 ⟨rfl, hb2⟩
      have HB2 := Aside0.mk hb2
      clear hb2
      have hx := HX.out
      have hf := HF.out
      go_wp2
      go_ret2
      exact ⟨rfl, HB1.out.trans (HB2.out.mono HB1.out.size)⟩
    · have hw : wordB 4 = ⟨#[113, 117, 101, 117, 101]⟩ := by rfl
      rw [hw]
      have hx := fun w' => (show (Instr.index 51 (.agg kindsA) (.int .i64 3)).run Tryz.prog w' = .ok (.agg #[.string ⟨#[113, 117, 101, 117, 101]⟩, (.func (.func 41) #[] #[])]) w' from by kernel_rfl)
      have hf := fun w' => (show (Instr.field 50 (.agg #[.string ⟨#[113, 117, 101, 117, 101]⟩, (.func (.func 41) #[] #[])]) 0).run Tryz.prog w' = .ok (.string ⟨#[113, 117, 101, 117, 101]⟩) w' from by kernel_rfl)
      have HX := Aside0.mk hx
      have HF := Aside0.mk hf
      clear hw hx hf
      go_enter Tryz.func12, Tryz.ntmps12
      go_wp2_with fail
      refine (HT.out _).mono ?_
      rintro e w1 ⟨rfl, hb1⟩
      have HB1 := Aside0.mk hb1
      clear hb1
      go_wp2_with fail
      refine (kinds_calls _).mono ?_
      rintro e w2 ⟨rfl, hb2⟩
      have HB2 := Aside0.mk hb2
      clear hb2
      have hx := HX.out
      have hf := HF.out
      go_wp2
      go_ret2
      exact ⟨rfl, HB1.out.trans (HB2.out.mono HB1.out.size)⟩
    · have hw : wordB 5 = ⟨#[101, 115, 99, 114, 111, 119]⟩ := by rfl
      rw [hw]
      have hx := fun w' => (show (Instr.index 51 (.agg kindsA) (.int .i64 4)).run Tryz.prog w' = .ok (.agg #[.string ⟨#[101, 115, 99, 114, 111, 119]⟩, (.func (.func 42) #[] #[])]) w' from by kernel_rfl)
      have hf := fun w' => (show (Instr.field 50 (.agg #[.string ⟨#[101, 115, 99, 114, 111, 119]⟩, (.func (.func 42) #[] #[])]) 0).run Tryz.prog w' = .ok (.string ⟨#[101, 115, 99, 114, 111, 119]⟩) w' from by kernel_rfl)
      have HX := Aside0.mk hx
      have HF := Aside0.mk hf
      clear hw hx hf
      go_enter Tryz.func12, Tryz.ntmps12
      go_wp2_with fail
      refine (HT.out _).mono ?_
      rintro e w1 ⟨rfl, hb1⟩
      have HB1 := Aside0.mk hb1
      clear hb1
      go_wp2_with fail
      refine (kinds_calls _).mono ?_
      rintro e w2 ⟨rfl, hb2⟩
      have HB2 := Aside0.mk hb2
      clear hb2
      have hx := HX.out
      have hf := HF.out
      go_wp2
      go_ret2
      exact ⟨rfl, HB1.out.trans (HB2.out.mono HB1.out.size)⟩
  · rw [if_neg hk] at h
    simp only [Option.some.injEq, Prod.mk.injEq] at h
    obtain ⟨rfl, rfl⟩ := h
    have HT := Aside0.mk (typed_no hk)
    clear hk
    go_enter Tryz.func12, Tryz.ntmps12
    go_wp2_with fail
    refine (HT.out _).mono ?_
    rintro e w1 ⟨rfl, hb1⟩
    have HB1 := Aside0.mk hb1
    clear hb1
    go_wp2
    go_ret2
    exact ⟨rfl, HB1.out⟩
end Go.Proofs.YtdimbcabkikcoaaGreatDoor.P
