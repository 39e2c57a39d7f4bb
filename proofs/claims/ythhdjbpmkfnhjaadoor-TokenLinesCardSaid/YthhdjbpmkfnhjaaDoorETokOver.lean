/- armisticelaw02.TokenLines, walked: the lines that are told, beside the document's; what is told is written over, what was lent stands still. -/
import Derived.Test.YthhdjbpmkfnhjaaDoorM02Ref
import Derived.Test.YthhdjbpmkfnhjaaDoorELent
import Derived.Test.YthhdjbpmkfnhjaaDoorETokLines
import Derived.Test.YthhdjbpmkfnhjaaDoorEAwake02
import Derived.Test.YthhdjbpmkfnhjaaDoorPx4
import Derived.Test.YthhdjbpmkfnhjaaDoorPx3
namespace Go.Proofs.YthhdjbpmkfnhjaaDoor.Pure
open Go.RowKit Go.Proofs.YthhdjbpmkfnhjaaDoor.P Go.Proofs.YthhdjbpmkfnhjaaDoorW.PrintWords Go.Proofs.YthhdjbpmkfnhjaaDoorW.PrintLast Go.Proofs.YthhdjbpmkfnhjaaDoorW.PrintMore
set_option linter.unusedVariables false
set_option linter.unusedSimpArgs false
/-- w' is W, but that rows of type t from base on may hold other cells. -/
structure Over (t : TypeId) (base : Nat) (W w' : World) : Prop where
  below : Below base W w'
  blk : ∀ k : Nat, w'.heap[k]? = W.heap[k]? ∨ ∃ cs cs' : Array Value, W.heap[k]? = some (Obj.cells cs t (0, 0)) ∧ w'.heap[k]? = some (Obj.cells cs' t (0, 0)) ∧ cs'.size = cs.size
theorem Over.refl (t : TypeId) (base : Nat) (W : World) : Over t base W W := ⟨Below.refl _ _, fun _ => .inl rfl⟩
theorem Over.keep {t : TypeId} {base : Nat} {W w' : World} (h : Over t base W w') {g t' : Nat} {cs : Array Value} (hb : W.heap[g]? = some (Obj.cells cs t' (0, 0))) (hne : t' ≠ t) : w'.heap[g]? = some (Obj.cells cs t' (0, 0)) := by
  rcases h.blk g with e | ⟨c, c', e1, _, _⟩
  · exact e.trans hb
  · rw [hb] at e1
    cases e1
    exact absurd rfl hne
theorem Over.row {t : TypeId} {base : Nat} {W w' : World} (h : Over t base W w') {g : Nat} {cs : Array Value} (hb : W.heap[g]? = some (Obj.cells cs t (0, 0))) : ∃ cs' : Array Value, w'.heap[g]? = some (Obj.cells cs' t (0, 0)) ∧ cs'.size = cs.size := by
  rcases h.blk g with e | ⟨c, c', e1, e2, e3⟩
  · exact ⟨cs, e.trans hb, rfl⟩
  · rw [hb] at e1
    cases e1
    exact ⟨c', e2, e3⟩
theorem Over.store {t : TypeId} {base : Nat} {W w' : World} (h : Over t base W w') {g : Nat} {cs : Array Value} (hb : w'.heap[g]? = some (Obj.cells cs t (0, 0))) (hg : base ≤ g) (i : Nat) (u : Value) : Over t base W (w'.setCell ⟨g, i, none⟩ u) := by
  refine ⟨h.below.setCell (by exact hg) u, fun k => ?_⟩
  by_cases hk : k = g
  · subst hk
    right
    rcases h.blk k with e | ⟨c, c', e1, e2, e3⟩
    · exact ⟨cs, _, e ▸ hb, blk_set hb i u, by simp⟩
    · rw [hb] at e2
      cases e2
      exact ⟨c, _, e1, blk_set hb i u, by simpa using e3⟩
  · rw [Below.heap_setCell w' ⟨g, i, none⟩ u k hk]
    exact h.blk k
/-- Where the words of a told line stand. -/
theorem line_row {w : World} {base : Nat} {ok : Nat → Prop} {g n cap : Nat} {ls : List S34} (h : Kd.S k34 34 w base ok (.slice (some ⟨g, 0, none⟩) n cap) ls) (i : Nat) (hi : i < ls.length) (hn : n = ls.length) (hp : 0 < ls[i].f1.length) :
    ∃ (gi c : Nat) (cells : Array Value), base ≤ gi ∧ w.heap[gi]? = some (.cells cells 36 (0, 0)) ∧ ls[i].f1.length * 2 ≤ cells.size ∧ w.cell? ⟨g, i * 2 + 1, none⟩ = some (.slice (some ⟨gi, 0, none⟩) ls[i].f1.length c) ∧ ls[i].f1.length ≤ c := by
  obtain ⟨ce, hce, hM, hcc⟩ := Kd.S_get h z34 (i : Int) (by omega) (by omega)
  have hx : ls.getD (i : Int).toNat z34 = ls[i] := by simp [hi]
  rw [hx] at hM
  obtain ⟨v1, rfl, hR⟩ := k34_openM hM
  obtain ⟨gi, c, rfl, hb, hlt, cells, hcells⟩ := Kd.R_form hR hp
  have h1 := hcc 1 _ rfl
  have e1 : (⟨g, 0, none⟩ : Addr).add ((i : Int).toNat * k34.sz + 1) = ⟨g, i * 2 + 1, none⟩ := by
    have : k34.sz = 2 := rfl
    rw [this, Int.toNat_natCast]
    simp [Addr.add]
  rw [e1] at h1
  have hr := Kd.R_reads' hR
  refine ⟨gi, c, cells, hb, hcells, ?_, h1, hr.2.1⟩
  obtain ⟨ad, e, hw0, hw1⟩ := at_T36 hr.2.2 ((ls[i].f1.length - 1 : Nat) : Int) (by omega) (by omega)
  cases e
  rw [Int.toNat_natCast] at hw1
  have e2 : (⟨((⟨gi, 0, none⟩ : Addr).add ((ls[i].f1.length - 1) * 2)).block, ((⟨gi, 0, none⟩ : Addr).add ((ls[i].f1.length - 1) * 2)).off + 1, none⟩ : Addr) = ⟨gi, (ls[i].f1.length - 1) * 2 + 1, none⟩ := by
    unfold Addr.add
    split <;> simp_all
  rw [e2, blk_cell hcells] at hw1
  have := (Array.getElem?_eq_some_iff.1 hw1).1
  omega
end Go.Proofs.YthhdjbpmkfnhjaaDoor.Pure
