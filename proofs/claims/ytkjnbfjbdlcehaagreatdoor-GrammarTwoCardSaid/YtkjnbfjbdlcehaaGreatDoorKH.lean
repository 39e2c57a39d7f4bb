/- Words for walks by hand: a region that draws its order; a world under a letter. -/
import Derived.Test.YtkjnbfjbdlcehaaGreatDoorKW
import Derived.WalkMore
import Derived.Deep.RegionHeld3
import Derived.Test.YtkjnbfjbdlcehaaGreatDoorProg
namespace Go.Proofs.YtkjnbfjbdlcehaaGreatDoor.P
open Go.RowKit Go.Proofs.YtkjnbfjbdlcehaaGreatDoorW.PrintWords Go.Proofs.YtkjnbfjbdlcehaaGreatDoorW.PrintLast Go.Proofs.YtkjnbfjbdlcehaaGreatDoorW.PrintMore
set_option linter.unusedVariables false
def OnlyQ (K : Act → World → Prop) : Exit → Act → World → Prop
  | .normal, a, w => K a w
  | _, _, _ => False
theorem wp_onlyQ {P : Program} {c : Code} {Q : Exit → Act → World → Prop} {a : Act} {w : World} (h : ∀ K : Act → World → Prop, (∀ a w, Q .normal a w → K a w) → c.wp P (OnlyQ K) a w) : c.wp P Q a w :=
  Code.wp_mono (fun e a w h' => by cases e <;> first | exact h' | exact (h' : False).elim) (h (Q .normal) (fun _ _ h' => h'))
theorem with_world {T : Act → World → Prop} {a : Act} {w : World} (F : World → Prop) (h : F w) (k : ∀ w, F w → T a w) : T a w := k w h
theorem blk_drews {w : World} {b : Nat} {o : Obj} (h : w.heap[b]? = some o) : w.drew.heap[b]? = some o := h
end Go.Proofs.YtkjnbfjbdlcehaaGreatDoor.P
