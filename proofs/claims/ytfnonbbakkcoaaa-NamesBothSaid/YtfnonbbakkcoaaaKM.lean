/- A map of the call's own, its elements read as they stand: a function from keys. Over any program. -/
import Derived.Maps.OwnOps
import Derived.Maps.OwnSet
import Derived.Maps.Views
import Derived.WalkKit
namespace Go.Proofs.Ytfnonbbakkcoaaa.P
open Go.RowKit Go.Maps
set_option linter.unusedVariables false
def RV (v : Value) : Option (DataW Value × List MemPlace) := some (.held v, [])
/-- Block b is a map of at most n entries: F tells what stands at a key. -/
def MapF (w : World) (P : Program) (k : TypeId) (b n : Nat) (F : Lit → Option Value) : Prop :=
  ∃ D : DataW Value, w.ownsMap P k RV b n D ∧ ∀ kl, WideAt.IsKeyLit kl → Maps.has D kl = (F kl).isSome ∧ ∀ z, D.atKey kl (.held z) = .held ((F kl).getD z)
section
variable {P : Program} {k t e : TypeId} {w w' : World} {b n : Nat} {F : Lit → Option Value}
theorem MapF.made (w : World) (P : Program) (k : TypeId) : MapF (w.alloc (.map #[] 0)) P k w.heap.size 0 (fun _ => none) :=
  ⟨.map [], World.ownsMap_made w P k RV, fun kl _ => ⟨rfl, fun z => rfl⟩⟩
theorem MapF.lt (h : MapF w P k b n F) : b < w.heap.size := by
  obtain ⟨D, h1, _⟩ := h
  exact h1.lt
theorem MapF.move (h : MapF w P k b n F) (hb : w'.heap[b]? = w.heap[b]?) : MapF w' P k b n F := by
  obtain ⟨D, ⟨es, clock, h1, h2⟩, h3⟩ := h
  exact ⟨D, ⟨es, clock, hb.trans h1, h2⟩, h3⟩
theorem MapF.isMap {w : World} {D : DataW Value} (h : w.ownsMap P k RV b n D) : Maps.IsMap D := by
  obtain ⟨es, clock, _, _, _, rfl⟩ := h
  exact ⟨_, rfl⟩
theorem MapF.look (h : MapF w P k b n F) (K : Keyed P k) (ht : P.underlying t = some (.map k e)) {z : Value} (hz : (zeroValue e).run P w = .ok z w) {key : Value} {kl : Lit} (hkey : keyOf P k key = some kl) (hl : WideAt.IsKeyLit kl) :
    (Instr.lookup t (.map (some b)) key false).run P w = .ok ((F kl).getD z) w := by
  obtain ⟨D, h1, h2⟩ := h
  obtain ⟨v, ps, hr, hv⟩ := h1.lookup (zd := .held z) (zp := []) K ht hz rfl hkey
  rw [(h2 kl hl).2 z] at hv
  simp only [RV, Option.some.injEq, Prod.mk.injEq, DataW.held.injEq] at hv
  rw [hr, hv.1]
theorem MapF.look_ok (h : MapF w P k b n F) (K : Keyed P k) (ht : P.underlying t = some (.map k e)) {z : Value} (hz : (zeroValue e).run P w = .ok z w) {key : Value} {kl : Lit} (hkey : keyOf P k key = some kl) (hl : WideAt.IsKeyLit kl) :
    (Instr.lookup t (.map (some b)) key true).run P w = .ok (.tuple #[(F kl).getD z, .bool (F kl).isSome]) w := by
  obtain ⟨D, h1, h2⟩ := h
  obtain ⟨v, ps, hr, hv⟩ := h1.look_ok (zd := .held z) (zp := []) K ht hz rfl hkey
  rw [(h2 kl hl).2 z] at hv
  simp only [RV, Option.some.injEq, Prod.mk.injEq, DataW.held.injEq] at hv
  rw [hr, hv.1, (h2 kl hl).1]
open Classical in
theorem MapF.put (h : MapF w P k b n F) (K : Keyed P k) (ht : P.underlying t = some (.map k e)) (hn : n < maxLen) {key v : Value} {kl : Lit} (hkey : keyOf P k key = some kl) (hl : WideAt.IsKeyLit kl) :
    ∃ w', (Instr.mapUpdate t (.map (some b)) key v).run P w = .ok () w' ∧ MapF w' P k b (n + 1) (fun x => if x = kl then some v else F x) ∧ w.grownBy w' (some b) := by
  obtain ⟨D, h1, h2⟩ := h
  obtain ⟨w', hr, ho, hg⟩ := h1.update (val := v) K ht hn hkey rfl
  refine ⟨w', hr, ⟨_, ho, fun x hx => ?_⟩, hg⟩
  by_cases c : x = kl
  · subst c
    simp only [if_true]
    exact ⟨has_put_same (MapF.isMap h1) hx _, fun z => atKey_put_same (MapF.isMap h1) hx _ _⟩
  · simp only [if_neg c]
    rw [has_put_other c]
    exact ⟨(h2 x hx).1, fun z => (atKey_put_other c _ _).trans ((h2 x hx).2 z)⟩
end
end Go.Proofs.Ytfnonbbakkcoaaa.P
