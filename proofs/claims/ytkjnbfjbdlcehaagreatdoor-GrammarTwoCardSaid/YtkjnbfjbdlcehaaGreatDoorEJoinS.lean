/- strings.Builder in this program: one application each. -/
import Derived.Shelf.Strings.Builder1
import Derived.Test.YtkjnbfjbdlcehaaGreatDoorShelfP
import Derived.Test.YtkjnbfjbdlcehaaGreatDoorKW
namespace Go.Proofs
open Go.Shelf
def Tryz.ren167 : Go.Shelf.Ren := ⟨fun | 167 => 31 | 170 => 32 | n => Tryz.lays156_ren.f n, Tryz.lays156_ren.t, Tryz.lays156_ren.g⟩
theorem Tryz.lays166 : Go.Proofs.Lays.n166 Tryz.prog Tryz.ren167 := { Tryz.lays156 with }
theorem Tryz.lays169 : Go.Proofs.Lays.n169 Tryz.prog Tryz.ren167 := { Tryz.lays156 with }
theorem Tryz.lays170 : Go.Proofs.Lays.n170 Tryz.prog Tryz.ren167 := { Tryz.lays156 with f170 := Tryz.func32.trans (congrArg some (by kernel_rfl)) }
theorem Tryz.lays167 : Go.Proofs.Lays.n167 Tryz.prog Tryz.ren167 := { Tryz.lays156 with f167 := Tryz.func31.trans (congrArg some (by kernel_rfl)), t5 := Tryz.underlying5, a5 := Tryz.isAgg5, z5 := Tryz.sizeOf5, v5 := Tryz.zeroValue5 }
set_option maxRecDepth 100000 in
theorem Tryz.extra167 : Builder.Extra Tryz.prog Tryz.ren167 := { Tryz.Builder_Extra_156 with }
namespace YtkjnbfjbdlcehaaGreatDoor.P
open Go.RowKit
theorem bld_below {T e : TypeId} {B b : Nat} {bs : List Value} {W W' : World} (h : Lib.IsBuilder T e B b bs W) (hb : Below W.heap.size W W') : Lib.IsBuilder T e B b bs W' := by
  have k : ∀ p, Lib.BuilderAt T e B b p bs W → Lib.BuilderAt T e B b p bs W' := fun p h => by
    have hlt := h.lt
    obtain ⟨hB, v, hv, hown, hne⟩ := h
    exact ⟨hB, v, (hb.block b hlt).trans hv, hown.kept (row := none) ⟨hb.os, hb.tape, hb.output, hb.size, fun k hk _ => hb.block k hk⟩ (Classical.em _), hne⟩
  exact h.elim (fun x => .inl (k _ x)) (fun x => .inr (k _ x))
theorem cells_app (l : List UInt8) (s : ByteArray) : Lib.byteCells l ++ Lib.strCells s = Lib.byteCells (l ++ s.data.toList) := by simp [Lib.byteCells, Lib.strCells]
theorem cells_one (l : List UInt8) (c : UInt8) : Lib.byteCells l ++ [.int .u8 c.toNat] = Lib.byteCells (l ++ [c]) := by simp [Lib.byteCells]
theorem bld_str (B b : Nat) (l : List UInt8) (s : ByteArray) (w : World) (h : Lib.IsBuilder 59 5 B b (Lib.byteCells l) w) (hlen : l.length + s.size ≤ 140737488355328) (hBw : B ≤ w.heap.size) :
    Calls Tryz.prog 30 #[.pointer (some ⟨b, 0, none⟩), .string s] w fun e w' => e = .returned (.tuple #[.int .i64 s.size, .nilIface]) ∧ Lib.IsBuilder 59 5 B b (Lib.byteCells (l ++ s.data.toList)) w' ∧ Below B w w' :=
  (Any.Builder_WriteString Tryz.lays166 Tryz.extra167 B b _ s w h (by simpa [Lib.byteCells] using hlen) hBw).mono fun e w' ⟨he, hb, hw⟩ => ⟨he, .inr (cells_app l s ▸ (hb : Lib.BuilderAt 59 5 B b (.pointer (some ⟨b, 0, none⟩)) (Lib.byteCells l ++ Lib.strCells s) w')), hw⟩
theorem bld_byte (B b : Nat) (l : List UInt8) (c : UInt8) (w : World) (h : Lib.IsBuilder 59 5 B b (Lib.byteCells l) w) (hlen : l.length + 1 ≤ 140737488355328) (hBw : B ≤ w.heap.size) :
    Calls Tryz.prog 31 #[.pointer (some ⟨b, 0, none⟩), .int .u8 c.toNat] w fun e w' => e = .returned .nilIface ∧ Lib.IsBuilder 59 5 B b (Lib.byteCells (l ++ [c])) w' ∧ Below B w w' :=
  (Any.Builder_WriteByte Tryz.lays167 Tryz.extra167 B b _ c.toNat w h (by simpa [Lib.byteCells] using hlen) hBw).mono fun e w' ⟨he, hb, hw⟩ => ⟨he, .inr (cells_one l c ▸ (hb : Lib.BuilderAt 59 5 B b (.pointer (some ⟨b, 0, none⟩)) (Lib.byteCells l ++ [.int .u8 c.toNat]) w')), hw⟩
theorem bld_len (B b : Nat) (l : List UInt8) (w : World) (h : Lib.IsBuilder 59 5 B b (Lib.byteCells l) w) :
    Calls Tryz.prog 32 #[.pointer (some ⟨b, 0, none⟩)] w fun e w' => e = .returned (.int .i64 l.length) ∧ w' = w :=
  (Any.Builder_Len Tryz.lays170 B b _ w h).mono fun e w' ⟨he, hw⟩ => ⟨by simpa [Lib.byteCells] using he, hw⟩
theorem bld_string (B b : Nat) (l : List UInt8) (w : World) (h : Lib.IsBuilder 59 5 B b (Lib.byteCells l) w) (hBw : B ≤ w.heap.size) :
    Calls Tryz.prog 33 #[.pointer (some ⟨b, 0, none⟩)] w fun e w' => e = .returned (.string ⟨l.toArray⟩) ∧ Below B w w' :=
  Any.Builder_String_any Tryz.lays169 Tryz.extra167 B b l w h hBw
end YtkjnbfjbdlcehaaGreatDoor.P
end Go.Proofs

/- strings.Join as the printer asks for it. -/
namespace Go.Proofs.YtkjnbfjbdlcehaaGreatDoor.P
open Go.RowKit Go.Proofs.YtkjnbfjbdlcehaaGreatDoorW.PrintWords Go.Proofs.YtkjnbfjbdlcehaaGreatDoorW.PrintLast
set_option linter.unusedVariables false
def strings_Join.f (l : List ByteArray) (sep : ByteArray) : Option ByteArray := if l.length ≤ 140737488355328 ∧ (Lib.join (l.map (·.data.toList)) sep.data.toList).length ≤ 140737488355328 then some ⟨(Lib.join (l.map (·.data.toList)) sep.data.toList).toArray⟩ else none
theorem strings_Join.calls (A0 : Option Addr) (c0 : Nat) (l0 : List ByteArray) (a1 : ByteArray) (r : ByteArray) (w : World) (hr0 : Kd.C Kd.string w A0 l0.length l0) (hc0 : l0.length ≤ c0) (h : strings_Join.f l0 a1 = some r) :
    Calls Tryz.prog 37 #[.slice A0 l0.length c0, .string a1] w fun e w' => e = .returned (.string r) ∧ Below w.heap.size w w' := by
  unfold strings_Join.f at h
  split at h
  · rename_i hh
    cases h
    cases l0 with
    | nil =>
      refine (Tryz.strings_Join_none A0 c0 a1 w).mono ?_
      rintro e w' ⟨rfl, rfl⟩
      exact ⟨by simp [Lib.join_nil], Below.refl _ _⟩
    | cons x l =>
      have hcell : ∀ (j : Nat), j < (x :: l).length → ∃ ad, A0 = some ad ∧ w.cell? (ad.add j) = some (.string ((x :: l).getD j ByteArray.empty)) := fun j hj => by
        obtain ⟨ad, e, h1⟩ := Kd.at_string hr0 (j : Int) (by omega) (by omega)
        refine ⟨ad, e, ?_⟩
        rw [Int.toNat_natCast] at h1
        rw [h1]
        simp [rdOf]
      obtain ⟨ad, rfl, h0⟩ := hcell 0 (by simp)
      have h00 : w.cell? ad = some (.string x) := by simpa [Addr.add] using h0
      obtain ⟨b, o, sp⟩ := ad
      have hsp : sp = none := by
        unfold World.cell? at h00
        split at h00
        · cases sp with
          | none => rfl
          | some _ => simp at h00
        · cases h00
      subst hsp
      exact Tryz.strings_Join b o c0 (x :: l) a1 w (fun j y hy => by
        obtain ⟨hj, hy⟩ := List.getElem?_eq_some_iff.1 hy
        obtain ⟨ad, e, h1⟩ := hcell j hj
        cases e
        rw [Addr.add_mid] at h1
        rw [h1]
        simp [List.getD, List.getElem?_eq_getElem hj, hy]) (World.block_lt_of_cell? w _ h00) hh.1 hc0 hh.2
  · cases h
end Go.Proofs.YtkjnbfjbdlcehaaGreatDoor.P
