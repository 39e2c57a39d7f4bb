/- StateKnown: the chapter's examples are answered as it says. -/
import Derived.Test.YtdimbcabkikcoaaDoorPx7
namespace Go.Proofs.YtdimbcabkikcoaaDoor.Pure
open Go.RowKit Go.Proofs.YtdimbcabkikcoaaDoor.P Go.Proofs.YtdimbcabkikcoaaDoorW.PrintWords Go.Proofs.YtdimbcabkikcoaaDoorW.PrintLast
theorem known_at : armisticelaw05_StateKnown.f 40 = some true := by kernel_rfl
theorem up_ {α : Type} {f : Nat → Option α} (h : ∀ k, LeO (f k) (f (k + 1))) {r : α} {a : Nat} (ha : f a = some r) : ∀ d, f (a + d) = some r
  | 0 => ha
  | d + 1 => h _ r (up_ h ha d)
theorem known_up (g : Nat) : armisticelaw05_StateKnown.f (40 + g) = some true := up_ armisticelaw05_StateKnown.mono known_at g
theorem StateKnown : armisticelaw05_StateKnown.Pure := ⟨40, known_at⟩
end Go.Proofs.YtdimbcabkikcoaaDoor.Pure
