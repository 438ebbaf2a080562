/-
  A world that has drawn more is as the one before.
-/
import Derived.Test.YtplgegffapikoabDoorBase2
import Derived.Outline
import Derived.Deep.QuietTactic
namespace Go.Proofs.YtplgegffapikoabDoor
open Go.RowKit
theorem Up.drewN {a w : World} (h : Up a w) (n : Nat) : Up a (w.drewN n) := ⟨h.os, h.tape, h.output, h.size, h.block⟩
end Go.Proofs.YtplgegffapikoabDoor
