/- What Order's index list holds, for SortFunc. -/
import Derived.Test.YtfnonbbakkcoaaaETable
import Derived.Sort.Row
import Derived.Lib.Bytealg
import Derived.Shelf.SlSortCmp.Insertion
namespace Go.Proofs.Ytfnonbbakkcoaaa.P
open Go.RowKit Go.Proofs.YtfnonbbakkcoaaaW.PrintWords Go.Proofs.YtfnonbbakkcoaaaW.PrintLast Go.Proofs.YtfnonbbakkcoaaaW.PrintMore
set_option linter.unusedVariables false
/-- How two names of a table compare. -/
def cmpN (l : List ByteArray) (i j : Int) : Int := Lib.compareBytes (rdOf ByteArray.empty l i).data.toList (rdOf ByteArray.empty l j).data.toList
def iotaL (k : Nat) : List Int := (List.range k).map Int.ofNat
theorem iotaL_len (k : Nat) : (iotaL k).length = k := by simp [iotaL]
theorem iotaL_succ (k : Nat) : iotaL (k + 1) = iotaL k ++ [(k : Int)] := by simp [iotaL, List.range_succ]
def encF (n : Nat) (i : Fin n) : Value := .int .i64 (i.val : Int)
theorem holds_iota {W : World} {n g c base : Nat} {ok : Nat → Prop} [Inhabited (Fin n)] (h : (Kd.int .i64).R 3 W base ok (.slice (some ⟨g, 0, none⟩) (iotaL n).length c) (iotaL n)) : Go.Sort.Holds (encF n) W g 0 (Array.ofFn id) := by
  intro j hj
  have hjn : j < n := by simpa using hj
  have h1 := Kd.R_cell (0 : Int) h (j : Int) (by omega) (by rw [iotaL_len]; omega)
  simp only [Int.toNat_natCast] at h1
  rw [Nat.zero_add]
  refine ⟨h1.1.trans ?_, h1.2⟩
  have e1 : rdOf (0 : Int) (iotaL n) (j : Int) = (j : Int) := by simp [rdOf, iotaL, List.getD, hjn]
  rw [e1, getElem!_pos _ j hj]
  simp [encF]
theorem below_sort {α : Type} [Inhabited α] (enc : α → Value) (w : World) (blk off m : Nat) (dk : Array α) (os : Array Obj) {B : Nat} (hB : B ≤ blk) (hs : B ≤ w.heap.size) : Below B w (sortWorld enc w blk off m dk os) := by
  refine ⟨rfl, rfl, rfl, ?_, fun k hk => ?_⟩
  · simp [sortWorld, Go.Sort.grow, Go.Sort.putRow, Go.Sort.mapBlock, Go.Sort.ahead]
  · have hk2 : k < (Go.Sort.putRow enc (Go.Sort.ahead w m) blk off dk).heap.size := by simp [Go.Sort.putRow, Go.Sort.mapBlock, Go.Sort.ahead]; omega
    unfold sortWorld
    rw [Go.Sort.heap_grow_old _ _ hk2]
    simp only [Go.Sort.putRow, Go.Sort.mapBlock, Go.Sort.ahead, Array.getElem?_modify]
    rw [if_neg (by omega)]
theorem row_at0 {e base : Nat} {ok : Nat → Prop} {W : World} {v : Value} {xs : List Int} (h : (Kd.int .i64).R e W base ok v xs) (hn : 0 < xs.length) : ∃ g c, v = .slice (some ⟨g, 0, none⟩) xs.length c ∧ base ≤ g ∧ g < W.heap.size := by
  obtain ⟨h1, h2⟩ := Kd.own_of_R h
  rcases h2 with ⟨_, h0⟩ | ⟨g, cap, cur, rfl, hg, hh, _⟩
  · omega
  · exact ⟨g, cap, rfl, hg, (Array.getElem?_eq_some_iff.1 hh).1⟩
def valsF {n : Nat} (d : Array (Fin n)) : List Int := d.toList.map (fun i => (i.val : Int))
theorem row_sorted {n : Nat} [Inhabited (Fin n)] {e base g c : Nat} {ok : Nat → Prop} {W : World} {xs : List Int} (h : (Kd.int .i64).R e W base ok (.slice (some ⟨g, 0, none⟩) xs.length c) xs) (hn : 0 < xs.length) (m : Nat) (d' : Array (Fin n)) (os : Array Obj) (hl : d'.size = xs.length) :
    (Kd.int .i64).R e (sortWorld (encF n) W g 0 m d' os) base ok (.slice (some ⟨g, 0, none⟩) xs.length c) (valsF d') := by
  have h0 := h.1
  obtain ⟨h1, h2⟩ := Kd.own_of_R h
  have el : (valsF d').length = xs.length := by simp [valsF, hl]
  rcases h2 with ⟨hv, _⟩ | ⟨g2, cap, cur, hv, hg, hh, h3, h4, h5, h6⟩
  · cases hv
  cases hv
  refine Kd.R_of_own ⟨by simp [encs, el], .inr ⟨g, c, Go.Sort.putCells (encF n) 0 d' cur, by rw [el], hg, ?_, by rw [el]; exact h3, h4, by simpa [Go.Sort.putCells] using h5, ?_⟩⟩ h0
  · have hgl : g < W.heap.size := (Array.getElem?_eq_some_iff.1 hh).1
    unfold sortWorld
    rw [Go.Sort.heap_grow_old _ _ (by simpa using hgl)]
    simp [Go.Sort.putRow, Go.Sort.mapBlock, Go.Sort.ahead, Array.getElem?_modify, hh, Go.Sort.onCells]
  · have hc : xs.length ≤ cur.size := by omega
    apply List.ext_getElem?
    intro j
    rw [el, Nat.mul_one]
    by_cases hj : j < xs.length
    · have hj1 : j < d'.size := by omega
      have hj2 : j < cur.size := by omega
      rw [List.getElem?_take_of_lt hj, Array.getElem?_toList]
      simp [Go.Sort.putCells, hj1, hj2, encs, valsF, encF]
    · rw [List.getElem?_take_eq_none (by omega), List.getElem?_eq_none (by simp [encs, el]; omega)]
theorem vals_id (n : Nat) : valsF (Array.ofFn (id : Fin n → Fin n)) = iotaL n := by
  apply List.ext_getElem (by simp [valsF, iotaL])
  intro i h1 h2
  simp [valsF, iotaL]
theorem vals_perm {n : Nat} [Inhabited (Fin n)] {d' : Array (Fin n)} (h : Go.Sort.PermIn 0 (Array.ofFn (id : Fin n → Fin n)).size (Array.ofFn (id : Fin n → Fin n)) d') : (valsF d').Perm (iotaL n) := by
  obtain ⟨h1, _, h3⟩ := h
  have h4 : (valsF d').Perm (valsF (Array.ofFn (id : Fin n → Fin n))) := by
    refine List.Perm.map _ ?_
    have e1 : d'.extract 0 (Array.ofFn (id : Fin n → Fin n)).size = d' := by rw [← h1]; simp
    have e2 : (Array.ofFn (id : Fin n → Fin n)).extract 0 (Array.ofFn (id : Fin n → Fin n)).size = Array.ofFn (id : Fin n → Fin n) := by simp
    rw [e1, e2] at h3
    exact h3
  rwa [vals_id] at h4
theorem vals_sorted {n : Nat} [Inhabited (Fin n)] (cf : Int → Int → Int) {d' : Array (Fin n)} (h : Go.Sort.SortedIn (ltOf (fun (x y : Fin n) => cf (x.val : Int) (y.val : Int))) 0 d'.size d') : (valsF d').Pairwise (fun a b => 0 ≤ cf b a) := by
  unfold valsF
  rw [List.pairwise_map, List.pairwise_iff_getElem]
  intro i j hi hj hij
  have h1 := h i j (Nat.zero_le _) hij (by simpa using hj)
  have hi' : i < d'.size := by simpa using hi
  have hj' : j < d'.size := by simpa using hj
  rw [getElem!_pos _ j hj', getElem!_pos _ i hi'] at h1
  simp only [ltOf, decide_eq_false_iff_not] at h1
  simpa using h1
end Go.Proofs.Ytfnonbbakkcoaaa.P
