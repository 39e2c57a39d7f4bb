/- names.Table: what a table is in memory; none, New, Len, Of, Name. -/
import Derived.Test.YtfnonbbakkcoaaaKM
import Derived.Test.YtfnonbbakkcoaaaKC
import Derived.Test.YtfnonbbakkcoaaaKH
import Derived.Test.YtfnonbbakkcoaaaKU
import Derived.OpenShut
import Derived.Deep.QuietTactic
import Derived.BigQuiet
import Derived.StringKeys
import Derived.WalkSpells
namespace Go.Proofs.Ytfnonbbakkcoaaa.P
open Go.RowKit Go.Proofs.YtfnonbbakkcoaaaW.PrintWords Go.Proofs.YtfnonbbakkcoaaaW.PrintLast Go.Proofs.YtfnonbbakkcoaaaW.PrintMore Go.Maps
set_option linter.unusedVariables false
set_option linter.unusedSimpArgs false
/-- Where a name stands in a table. -/
def nidx (l : List ByteArray) (s : ByteArray) : Option Nat := l.findIdx? (fun x => x.data.toList == s.data.toList)
def placeV (i : Nat) : Value := .agg #[.int .i64 (i : Int)]
/-- A table that was made, laid open: block p, its map in block q. -/
structure TbX (w : World) (p q : Nat) (S : Nat → Prop) (l : List ByteArray) (n : Nat) (F : Lit → Option Value) (v : Value) : Prop where
  blk : w.heap[p]? = some (.cells #[v, .map (some q)] 44 (0, 0))
  sp : S p
  sq : S q
  ne : q ≠ p
  le : n ≤ l.length
  map : MapF w Try.prog 9 q n F
  tells : ∀ s : ByteArray, F (.string s.data.toList) = (nidx l s).map placeV
  row : Kd.string.R 9 w 0 (fun k => S k ∧ k ≠ p ∧ k ≠ q) v l
/-- Block p is a table of the names l; its blocks are among S. -/
def TbO (w : World) (p : Nat) (S : Nat → Prop) (l : List ByteArray) : Prop := ∃ q n F v, TbX w p q S l n F v
section
variable {w w' : World} {p q n : Nat} {S S2 : Nat → Prop} {l : List ByteArray} {F : Lit → Option Value} {v : Value}
theorem TbX.mono (h : TbX w p q S l n F v) (hm : ∀ k, S k → S2 k) : TbX w p q S2 l n F v :=
  ⟨h.blk, hm p h.sp, hm q h.sq, h.ne, h.le, h.map, h.tells, Kd.R_mono h.row (fun k hk => ⟨hm k hk.1, hk.2⟩)⟩
theorem TbX.bound (h : TbX w p q S l n F v) : TbX w p q (fun k => S k ∧ k < w.heap.size) l n F v :=
  ⟨h.blk, ⟨h.sp, blk_lt h.blk⟩, ⟨h.sq, h.map.lt⟩, h.ne, h.le, h.map, h.tells, Kd.R_mono (Kd.R_bound h.row) (fun k hk => ⟨⟨hk.1.1, hk.2.2.1⟩, hk.1.2⟩)⟩
theorem TbX.step (h : TbX w p q S l n F v) (hm : ∀ k, S k → k < w.heap.size → w'.heap[k]? = w.heap[k]?) : TbX w' p q S l n F v :=
  ⟨(hm p h.sp (blk_lt h.blk)).trans h.blk, h.sp, h.sq, h.ne, h.le, h.map.move (hm q h.sq h.map.lt), h.tells, Kd.R_step h.row (fun k hk hl => hm k hk.1 hl)⟩
theorem TbX.c0 (h : TbX w p q S l n F v) : w.cell? ⟨p, 0, none⟩ = some v := (blk_cell h.blk 0).trans rfl
theorem TbX.c1 (h : TbX w p q S l n F v) : w.cell? ⟨p, 1, none⟩ = some (.map (some q)) := (blk_cell h.blk 1).trans rfl
theorem TbX.fr (h : TbX w p q S l n F v) (j : Nat) : w.frozen? ⟨p, j, none⟩ = false := blk_frozen h.blk j
theorem TbO.mono (h : TbO w p S l) (hm : ∀ k, S k → S2 k) : TbO w p S2 l := by
  obtain ⟨q, n, F, v, h⟩ := h
  exact ⟨q, n, F, v, h.mono hm⟩
theorem TbO.bound (h : TbO w p S l) : TbO w p (fun k => S k ∧ k < w.heap.size) l := by
  obtain ⟨q, n, F, v, h⟩ := h
  exact ⟨q, n, F, v, h.bound⟩
theorem TbO.step (h : TbO w p S l) (hm : ∀ k, S k → k < w.heap.size → w'.heap[k]? = w.heap[k]?) : TbO w' p S l := by
  obtain ⟨q, n, F, v, h⟩ := h
  exact ⟨q, n, F, v, h.step hm⟩
theorem TbO.chg (h : TbO w p S l) (hc : Chg S2 w w') (hd : ∀ k, S k → ¬ S2 k) : TbO w' p S l := h.step (fun k hk hl => hc.block k hl (hd k hk))
theorem TbO.below (h : TbO w p S l) (hb : Below w.heap.size w w') : TbO w' p S l := h.step (fun k _ hl => hb.block k hl)
theorem TbO.drew (h : TbO w p S l) : TbO w.drew p S l := h.below (Below.refl _ _).drew
theorem TbO.lt (h : TbO w p S l) : p < w.heap.size := by
  obtain ⟨q, n, F, v, h⟩ := h
  exact blk_lt h.blk
theorem zeroP (w : World) : (zeroValue 51).run Try.prog w = .ok (.agg #[.int .i64 0]) w := by kernel_rfl
theorem keyS (s : ByteArray) (hs : s.size ≤ maxLen) : keyOf Try.prog 9 (.string s) = some (.string s.data.toList) := WideMaps.keyOf_string_mk Try.underlying9 hs
theorem TbX.look (h : TbX w p q S l n F v) (s : ByteArray) (hs : s.size ≤ maxLen) :
    (Instr.lookup 42 (.map (some q)) (.string s) true).run Try.prog w = .ok (.tuple #[((nidx l s).map placeV).getD (.agg #[.int .i64 0]), .bool (nidx l s).isSome]) w := by
  have h1 := h.map.look_ok (string_keyed Try.underlying9) Try.underlying42 (zeroP w) (keyS s hs) trivial
  rw [h.tells] at h1
  rw [h1]
  cases nidx l s <;> rfl
end
theorem none_no (p q : Nat) (w : World) (h : w.cell? ⟨p, 1, none⟩ = some (.map (some q))) :
    Calls Try.prog 28 #[.pointer (some ⟨p, 0, none⟩)] w fun e w' => e = .returned (.bool false) ∧ w' = w := by
  have hq := run_eql_map_nil (P := Try.prog) w 42 9 51 (some q) Try.underlying42
  go_enter Try.func28, Try.ntmps28
  go_wp2
  go_ret
  exact ⟨rfl, rfl⟩
theorem none_zero (p : Nat) (w : World) (h : w.cell? ⟨p, 1, none⟩ = some (.map none)) :
    Calls Try.prog 28 #[.pointer (some ⟨p, 0, none⟩)] w fun e w' => e = .returned (.bool true) ∧ w' = w := by
  have hq := run_eql_map_nil (P := Try.prog) w 42 9 51 none Try.underlying42
  go_enter Try.func28, Try.ntmps28
  go_wp2
  go_ret
  exact ⟨rfl, rfl⟩
theorem none_nil (w : World) :
    Calls Try.prog 28 #[.pointer none] w fun e w' => e = .returned (.bool true) ∧ w' = w := by
  go_enter Try.func28, Try.ntmps28
  go_wp2
  go_ret
  exact ⟨rfl, rfl⟩
theorem Len_calls (p : Nat) (S : Nat → Prop) (l : List ByteArray) (w : World) (h : TbO w p S l) :
    Calls Try.prog 11 #[.pointer (some ⟨p, 0, none⟩)] w fun e w' => e = .returned (.int .i64 (l.length : Int)) ∧ w' = w := by
  obtain ⟨q, n, F, v, h⟩ := h
  obtain ⟨A, c, rfl⟩ := Kd.R_slice h.row
  have q0 := h.c0
  have q1 := h.c1
  clear h
  go_enter Try.func11, Try.ntmps11
  go_wp2_with fail
  refine (none_no p q w q1).mono ?_
  rintro e w1 ⟨rfl, rfl⟩
  go_wp2
  go_ret
  exact ⟨rfl, rfl⟩
end Go.Proofs.Ytfnonbbakkcoaaa.P
