/-
  The parser's fail, blank, eat, must.
-/
import Derived.Test.YtplgegffapikoabDoorPars0
set_option linter.unusedVariables false
namespace Go.Proofs.YtplgegffapikoabDoor
open Go.RowKit

set_option maxRecDepth 100000 in
set_option maxHeartbeats 800000 in
theorem fail_p (g : Nat) (s : ByteArray) (k : Nat) (er : Int) (w : World) (hp : PW g s k w) :
    Calls Tryd.prog 35 #[.pointer (some ⟨g, 0, none⟩), .int .i64 er] w fun e w' => e = .panicked [oopsE er k] ∧ Up w w' := by
  have h0 := hp.c0
  have h1 := hp.c1
  have hz := hp.lt
  go_enter Tryd.func35, Tryd.ntmps35
  go_wp2_with fail
  refine ⟨rfl, ?_⟩
  unfold oopsE
  refine ⟨rfl, ?_⟩
  repeat (first | (with_reducible exact Up.refl _) | (with_reducible refine Up.setCell ?_ ?_ _) | (with_reducible refine Up.alloc ?_ _) | (with_reducible refine Up.drew ?_))
  all_goals (simp only; omega)

set_option maxRecDepth 100000 in
set_option maxHeartbeats 800000 in
theorem slash_p (s : ByteArray) (w : World) :
    Calls Tryd.prog 66 #[.string s, .string ⟨#[47, 47]⟩] w fun e w' => e = .returned (.bool (slashB s)) ∧ w' = w := by
  by_cases h : 2 ≤ s.size
  · have h2 : (2 : Int) ≤ (s.size : Int) := by omega
    have hs : slashB s = ((s.extract 0 2).toList == [47, 47]) := by unfold slashB; rw [decide_eq_true h, Bool.true_and]
    have Hs := Lib.hid hs; clear hs
    go_enter Tryd.func66, Tryd.ntmps66
    go_wp2
    go_ret
    refine ⟨ret_bool ?_, rfl⟩
    rw [Hs.out]
  · have h2 : ¬ (2 : Int) ≤ (s.size : Int) := by omega
    have hs : slashB s = false := by unfold slashB; rw [decide_eq_false h, Bool.false_and]
    have Hs := Lib.hid hs; clear hs
    go_enter Tryd.func66, Tryd.ntmps66
    go_wp2
    go_ret
    refine ⟨ret_bool ?_, rfl⟩
    rw [Hs.out]
end Go.Proofs.YtplgegffapikoabDoor
