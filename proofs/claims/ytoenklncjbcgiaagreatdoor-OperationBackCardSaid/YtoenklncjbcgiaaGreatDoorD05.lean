/- What the laws' parameters read as: an operation. -/
import Derived.Test.YtoenklncjbcgiaaGreatDoorEDig
import Derived.ProofKit
import Derived.OpenShut
import Derived.ChangeSlices
import Derived.Test.YtoenklncjbcgiaaGreatDoorRows
import Derived.Test.YtoenklncjbcgiaaGreatDoorG
import Derived.LaidMore
import Derived.LaidSub
import Derived.MakeChecks
import Derived.Lay
import Derived.Stop.Joined
namespace Go.Proofs.YtoenklncjbcgiaaGreatDoor.P
open Go.RowKit Go.Proofs.YtoenklncjbcgiaaGreatDoorW.PrintWords Go.Proofs.YtoenklncjbcgiaaGreatDoorW.PrintLast Go.Proofs.YtoenklncjbcgiaaGreatDoorW.PrintMore
open Go.ChangeShapes Go.WideShapes Go.ChangeAt
set_option linter.unusedVariables false
theorem isI64_of {x : Int} (h : (Lit.int .i64 x).wf = true) : isI64 x := by
  simp only [Lit.wf, Bool.and_eq_true, decide_eq_true_eq] at h
  exact h
set_option maxRecDepth 100000 in
/-- An operation among the arguments: five numbers. -/
theorem open_op {H : Type} {enc : TypeId × Value → H} {w : World} {v : Value} {d : DataW H} {p : List MemPlace} (hv : Value.okWide Tryz.prog w .any 0 25 v) (h : DataW.Trod enc Tryz.prog w 0 (fun _ => true) true 25 v d p) :
    ∃ n a b rk rn : Int, v = .agg #[.int .i64 n, .int .i64 a, .int .i64 b, .int .i64 rk, .int .i64 rn] ∧ isI64 a ∧ isI64 b ∧ isI64 rn := by
  obtain ⟨cs, rfl, hc⟩ := okWide_struct Tryz.underlying25 hv
  obtain ⟨fuel, hf⟩ := h
  have c5 : Tryz.prog.cellsOf 25 = 5 := by kernel_rfl
  have c2 : Tryz.prog.cellsOf 23 = 2 := by kernel_rfl
  have c1 : Tryz.prog.cellsOf 3 = 1 := by kernel_rfl
  rw [c5] at hc
  obtain ⟨l⟩ := cs
  match l, hc with
  | [x0, x1, x2, x3, x4], _ =>
    obtain ⟨xs, m, _, _, _, hlen, hx⟩ := DataW.trod_struct Tryz.underlying25 hf
    match xs, hlen with
    | [y0, y1, y2, y3], _ =>
      have h0 := hx 0 _ rfl
      have h1 := hx 1 _ rfl
      have h2 := hx 2 _ rfl
      have h3 := hx 3 _ rfl
      simp only [List.getElem_toArray, List.getElem_cons_zero, List.getElem_cons_succ, Value.cells] at h0 h1 h2 h3
      rw [c1] at h0 h1 h2
      rw [c2] at h3
      obtain ⟨n, e0, _, _⟩ := DataW.trod_int Tryz.underlying3 h0
      obtain ⟨a, e1, _, w1⟩ := DataW.trod_int Tryz.underlying3 h1
      obtain ⟨b, e2, _, w2⟩ := DataW.trod_int Tryz.underlying3 h2
      obtain ⟨zs, m', _, _, _, hlen', hx'⟩ := DataW.trod_struct Tryz.underlying23 h3
      match zs, hlen' with
      | [z0, z1], _ =>
        have g0 := hx' 0 _ rfl
        have g1 := hx' 1 _ rfl
        simp only [List.getElem_toArray, List.getElem_cons_zero, List.getElem_cons_succ] at g0 g1
        rw [c1] at g0 g1
        obtain ⟨rk, e3, _, _⟩ := DataW.trod_int Tryz.underlying3 g0
        obtain ⟨rn, e4, _, w4⟩ := DataW.trod_int Tryz.underlying3 g1
        simp at e0 e1 e2 e3 e4
        subst e0 e1 e2 e3 e4
        exact ⟨n, a, b, rk, rn, rfl, isI64_of w1, isI64_of w2, isI64_of w4⟩
end Go.Proofs.YtoenklncjbcgiaaGreatDoor.P

/- The listed package-level variables of this seat (one of them pinned, two of them errors): a start that meets the rows' condition; and what the condition gives the walks. -/
namespace Go.Proofs.YtoenklncjbcgiaaGreatDoor.D
open Go.ChangeShapes Go.WideShapes Go.ChangeAt Go.RowKit
def laid1 : List (String × DataW Unit) := [("math/bits.deBruijn32tab", Rows.laid_math_bits_deBruijn32tab), ("math/bits.deBruijn64tab", Rows.laid_math_bits_deBruijn64tab), ("internal/strconv.uint64pow10", Rows.laid_internal_strconv_uint64pow10), ("unicode/utf8.acceptRanges", Rows.laid_unicode_utf8_acceptRanges), ("strconv.ErrRange", Rows.laid_strconv_ErrRange), ("strconv.ErrSyntax", Rows.laid_strconv_ErrSyntax), ("unicode/utf8.first", Rows.laid_unicode_utf8_first)]
theorem door_met (os : Os) (args : Array Value) : laidMetH Tryz.prog laid1 ((World.laidAll Tryz.prog os laid1).forCall (fun _ _ => 0) ⟨#[], args, []⟩).memory := by
  rw [MakeChecks.laidMetH_plain _ _ _ (by kernel_rfl)]
  exact laidMet_laidAll _ (by kernel_rfl) (by kernel_rfl)
theorem door_shaped (os : Os) (args : Array Value) : ((World.laidAll Tryz.prog os laid1).forCall (fun _ _ => 0) ⟨#[], args, []⟩).Shaped Tryz.prog := World.shaped_of_ZipB (by kernel_rfl) (by kernel_rfl)
theorem gErr : Tryz.prog.globalNamed "strconv.ErrRange" = some 4 := by kernel_rfl
theorem tErr : (Tryz.prog.globals[4]?).map (·.type) = some 76 := by kernel_rfl
/-- What the condition gives the walks: strconv.ErrRange holds an interface value. -/
theorem of_laid {W : World} (h : laidMetH Tryz.prog laid1 W) : P.GOk W := by
  have h1 := h.filter (fun x => x.1 == "strconv.ErrRange")
  have e : laid1.filter (fun x => x.1 == "strconv.ErrRange") = [("strconv.ErrRange", Rows.laid_strconv_ErrRange)] := by unfold laid1; simp [List.filter]
  rw [e, Go.MakeChecks.laidMetH_plain _ _ _ (by kernel_rfl)] at h1
  obtain ⟨ps, ⟨g, t, cs, fuel, p, q, hg, ht, hv, hd, _, _⟩, _, _⟩ := h1
  obtain rfl := Option.some.inj (gErr.symm.trans hg)
  obtain rfl := Option.some.inj (tErr.symm.trans ht)
  obtain ⟨_, u, v, hcs, _, _⟩ := iface_of_trod Tryz.underlying76 hd
  refine ⟨.iface u v, ?_, .inr ⟨u, v, rfl⟩⟩
  have := World.var?_cell hg hv 0
  rw [Array.eq_one_of_toList hcs] at this
  simpa using this
end Go.Proofs.YtoenklncjbcgiaaGreatDoor.D
