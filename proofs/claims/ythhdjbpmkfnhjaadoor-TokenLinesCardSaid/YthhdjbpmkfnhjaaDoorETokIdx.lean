/- token: where a byte stands in a row of bytes, in a string; bytes.Cut at one byte. -/
import Derived.Test.YthhdjbpmkfnhjaaDoorRF2
import Derived.Test.YthhdjbpmkfnhjaaDoorETokS
import Derived.WalkMore
import Derived.Laws.Externs
import Derived.Laws.BytesArg
import Derived.Deep.QuietTactic
import Derived.BigQuiet
import Derived.Shelf.Bytes.SlIndexAt
import Derived.Lib.Bytealg
namespace Go.Proofs.YthhdjbpmkfnhjaaDoor.P
open Go.RowKit Go.Proofs.YthhdjbpmkfnhjaaDoorW.PrintWords
set_option linter.unusedVariables false
set_option linter.unusedSimpArgs false

set_option maxHeartbeats 1000000 in
set_option maxRecDepth 100000 in
theorem bIndexByte (a : Addr) (n c : Nat) (xs : List Int) (cv : Int) (w : World) (hx : xs.length = n) (hc : ∀ i, i < n → w.cell? (a.add i) = some (.int .u8 (xs.getD i 0))) :
    Calls Tryd.prog 44 #[.slice (some a) n c, .int .u8 cv] w fun e w' => e = .returned (.int .i64 (Lib.indexByte (Lib.bytesOf xs) cv.toNat.toUInt8)) ∧ w' = w := by
  go_enter Tryd.func44, Tryd.ntmps44
  go_wp2
  rw [run_callFunc_extern Tryd.func53 (by kernel_rfl) (by kernel_rfl) (by kernel_rfl) (e := Extern.BytealgIndexByte.indexByte) (by kernel_rfl), Lib.run_indexByteAt w a n c xs hx hc cv]
  simp only [Result.andThen]
  rw [Oper.upon_value]
  go_wp2
  go_ret
  exact ⟨rfl, rfl⟩
set_option maxHeartbeats 1000000 in
set_option maxRecDepth 100000 in
theorem bIndex1 (a : Addr) (n c b2 o2 d : Nat) (xs : List Int) (cv : Int) (w : World) (hx : xs.length = n) (hc : ∀ i, i < n → w.cell? (a.add i) = some (.int .u8 (xs.getD i 0))) (hc2 : w.cell? ⟨b2, o2, none⟩ = some (.int .u8 cv)) :
    Calls Tryd.prog 37 #[.slice (some a) n c, .slice (some ⟨b2, o2, none⟩) 1 d] w fun e w' => e = .returned (.int .i64 (Lib.indexByte (Lib.bytesOf xs) cv.toNat.toUInt8)) ∧ w' = w := by
  have hcon := Aside0.mk (bIndexByte a n c xs cv w hx hc)
  clear hc
  go_enter Tryd.func37, Tryd.ntmps37
  go_wp2_with fail
  refine hcon.out.mono ?_
  rintro e w' ⟨rfl, rfl⟩
  go_wp2
  go_ret
  exact ⟨rfl, rfl⟩
set_option maxHeartbeats 1000000 in
set_option maxRecDepth 100000 in
theorem slIndexByte (s : ByteArray) (c : Int) (w : World) :
    Calls Tryd.prog 55 #[.string s, .int .u8 c] w fun e w' => e = .returned (.int .i64 (Lib.indexByte s.data.toList c.toNat.toUInt8)) ∧ w' = w := by
  go_enter Tryd.func55, Tryd.ntmps55
  go_wp2
  rw [run_callFunc_extern Tryd.func58 (by kernel_rfl) (by kernel_rfl) (by kernel_rfl) (e := Extern.BytealgIndexByte.indexByte) (by kernel_rfl), Lib.run_indexByteString s c w]
  simp only [Result.andThen]
  rw [Oper.upon_value]
  go_wp2
  go_ret
  exact ⟨rfl, rfl⟩
set_option maxHeartbeats 1000000 in
set_option maxRecDepth 100000 in
theorem slIndex1 (s : ByteArray) (w : World) :
    Calls Tryd.prog 50 #[.string s, .string ⟨#[32]⟩] w fun e w' => e = .returned (.int .i64 (Lib.indexByte s.data.toList 32)) ∧ w' = w := by
  have hcon := Aside0.mk (slIndexByte s (((⟨#[32]⟩ : ByteArray)[0]'(by decide)).toNat : Int) w)
  have e32 : (((((⟨#[32]⟩ : ByteArray)[0]'(by decide)).toNat : Int)).toNat.toUInt8) = 32 := by decide
  rw [e32] at hcon
  clear e32
  by_cases c : s = ⟨#[32]⟩
  · subst c
    go_enter Tryd.func50, Tryd.ntmps50
    go_wp2
    go_ret
    exact ⟨rfl, rfl⟩
  · have c1 : ¬ [32] = s.toList := by
      intro e
      apply c
      rw [ByteArray.toList_eq] at e
      cases s with
      | mk d => exact congrArg ByteArray.mk (Array.toList_inj.1 e.symm)
    have c2 : ([32] == s.toList) = false := beq_eq_false_iff_ne.2 c1
    go_enter Tryd.func50, Tryd.ntmps50
    go_wp2_with fail
    refine hcon.out.mono ?_
    rintro e w' ⟨rfl, rfl⟩
    go_wp2
    go_ret
    exact ⟨rfl, rfl⟩
set_option maxHeartbeats 1000000 in
set_option maxRecDepth 100000 in
theorem sIndex1 (s : ByteArray) (w : World) :
    Calls Tryd.prog 40 #[.string s, .string ⟨#[32]⟩] w fun e w' => e = .returned (.int .i64 (Lib.indexByte s.data.toList 32)) ∧ w' = w := by
  go_enter Tryd.func40, Tryd.ntmps40
  go_wp2_with fail
  refine (slIndex1 s w).mono ?_
  rintro e w' ⟨rfl, rfl⟩
  go_wp2
  go_ret
  exact ⟨rfl, rfl⟩
/-- What Cut tells of a row of n bytes whose line has i bytes. -/
def cutRow (g o n c : Nat) (xs : List Int) : Value := .slice (some ⟨g, o, none⟩) (lineOf xs).length c
set_option maxHeartbeats 2000000 in
set_option maxRecDepth 100000 in
theorem bCut1 (g o c b2 : Nat) (xs : List Int) (hu : isU8 xs = true) (hb : xs.length < 4611686018427387904) (hcap : xs.length ≤ c) (w : World) (hc : ∀ i, i < xs.length → w.cell? ⟨g, o + i, none⟩ = some (.int .u8 (xs.getD i 0))) (hc2 : w.cell? ⟨b2, 0, none⟩ = some (.int .u8 10)) :
    Calls Tryd.prog 30 #[.slice (some ⟨g, o, none⟩) xs.length c, .slice (some ⟨b2, 0, none⟩) 1 1] w fun e w' => (∃ v u, e = .returned (.tuple #[.slice (some ⟨g, o, none⟩) (lineOf xs).length c, v, u])) ∧ Below w.heap.size w w' := by
  have hcon := Aside0.mk (bIndex1 ⟨g, o, none⟩ xs.length c b2 0 1 xs 10 w rfl (fun i hi => by
    have e' : (⟨g, o, none⟩ : Addr).add i = ⟨g, o + i, none⟩ := by
      unfold Addr.add
      split <;> simp_all
    rw [e']
    exact hc i hi) hc2)
  clear hc hc2
  rcases idx_line xs hu with ⟨h1, h2⟩ | ⟨h1, h2⟩
  · rw [h1] at hcon
    rw [h2]
    go_enter Tryd.func30, Tryd.ntmps30
    go_wp2_with fail
    refine hcon.out.mono ?_
    rintro e w' ⟨rfl, rfl⟩
    go_wp2
    refine bodyPost_ret (results_tmp3 rfl _ _ _) rfl ?_
    exact ⟨⟨_, _, rfl⟩, Below.refl _ _⟩
  · rw [h1] at hcon
    generalize lineOf xs = L at hcon h2 ⊢
    have q0 : (0 : Int) ≤ (L.length : Int) := by omega
    have q1 : decide ((0 : Int) ≤ (L.length : Int)) = true := decide_eq_true q0
    have q2 : L.length ≤ xs.length := by omega
    have q3 : L.length + 1 ≤ xs.length := by omega
    have q4 : L.length ≤ c := by omega
    have q5 : L.length + 1 ≤ c := by omega
    go_enter Tryd.func30, Tryd.ntmps30
    go_wp2_with fail
    refine hcon.out.mono ?_
    rintro e w' ⟨rfl, rfl⟩
    go_wp2
    go_quiet (fail)
    all_goals go_wp2
    all_goals refine bodyPost_ret (results_tmp3 rfl _ _ _) rfl ?_
    all_goals exact ⟨⟨_, _, rfl⟩, pw_below_drewN (Below.refl _ _) _⟩
end Go.Proofs.YthhdjbpmkfnhjaaDoor.P
