/- armisticelaw02.fails: is that where a text is none? -/
import Derived.Test.YthhdjbpmkfnhjaaDoorETokLines
import Derived.Test.YthhdjbpmkfnhjaaDoorEConv
namespace Go.Proofs.YthhdjbpmkfnhjaaDoor.P
open Go.RowKit Go.Proofs.YthhdjbpmkfnhjaaDoorW.PrintWords Go.Proofs.YthhdjbpmkfnhjaaDoorW.PrintLast Go.Proofs.YthhdjbpmkfnhjaaDoorW.PrintMore
set_option linter.unusedVariables false
set_option linter.unusedSimpArgs false
def armisticelaw02_fails.f (s : ByteArray) (p : Int) : Option Bool := if s.size ≤ 140737488351232 then (token_Lines.f (bytesOf s)).bind fun r => some (decide (r.1.length = 0) && (r.2.1 == 5 && r.2.2 == p)) else none
set_option maxHeartbeats 1000000 in
set_option maxRecDepth 100000 in
theorem armisticelaw02_fails.calls (s : ByteArray) (p : Int) (r : Bool) (w : World) (h : armisticelaw02_fails.f s p = some r) :
    Calls Tryd.prog 18 #[.string s, .int .i64 p] w fun e w' => e = .returned (.bool r) ∧ Below w.heap.size w w' := by
  unfold armisticelaw02_fails.f at h
  split at h
  · rename_i hs
    obtain ⟨⟨l, e, q⟩, hl, hr⟩ := Option.bind_eq_some_iff.1 h
    replace hr := Option.some.inj hr
    dsimp only at hr
    have HL := Aside0.mk (token_Lines.calls (some ⟨w.heap.size, 0, none⟩) (grownCap w s.size 0 5) (bytesOf s) l e q (convW w s) (convW_reads w s (by omega)) (convW_cap w s) hl)
    rw [bytesOf_len] at HL
    have hcv := conv_run w s
    have hB := Aside0.mk (convW_below w s)
    have hz := Aside0.mk (convW_size w s)
    have HR := Aside0.mk hr
    clear h hl hr hs
    go_enter Tryd.func18, Tryd.ntmps18
    go_wp2_with fail
    refine HL.out.mono ?_
    rintro e2 w2 ⟨v, rfl, hS, hb⟩
    obtain ⟨A, c, rfl⟩ := Kd.S_slice hS
    have HB := Aside0.mk (hB.out.trans (hb.mono (by rw [hz.out]; omega)))
    have HR2 := HR.out
    clear hS hb hcv HR
    by_cases hl0 : l.length = 0
    · rw [hl0] at HR2 ⊢
      have HR := Aside0.mk HR2
      clear HR2 hl0
      by_cases he : e = 5
      · subst he
        by_cases hq : q = p
        · subst hq
          go_wp2
          refine bodyPost_ret (results_tmp rfl _ _ _) rfl ?_
          refine ⟨?_, HB.out.alloc HB.out.size _⟩
          rw [← HR.out]
          simp
        · have d2 : (q == p) = false := beq_eq_false_iff_ne.2 hq
          clear hq
          go_wp2
          refine bodyPost_ret (results_tmp rfl _ _ _) rfl ?_
          refine ⟨?_, HB.out.alloc HB.out.size _⟩
          rw [← HR.out]
          simp [d2]
      · have d2 : (e == 5) = false := beq_eq_false_iff_ne.2 he
        clear he
        go_wp2
        refine bodyPost_ret (results_tmp rfl _ _ _) rfl ?_
        refine ⟨?_, HB.out.alloc HB.out.size _⟩
        rw [← HR.out]
        simp [d2]
    · have d1 : ((l.length : Int) == 0) = false := beq_eq_false_iff_ne.2 (by omega)
      have HR := Aside0.mk HR2
      have H0 := Aside0.mk hl0
      clear HR2 hl0
      go_wp2
      refine bodyPost_ret (results_tmp rfl _ _ _) rfl ?_
      refine ⟨?_, HB.out.alloc HB.out.size _⟩
      rw [← HR.out]
      simp [H0.out]
  · cases h
end Go.Proofs.YthhdjbpmkfnhjaaDoor.P
