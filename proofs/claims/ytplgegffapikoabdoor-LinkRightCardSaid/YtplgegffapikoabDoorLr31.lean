/-
  The closures of link.fields and link.items.
-/
import Derived.Test.YtplgegffapikoabDoorLr30
import Derived.Test.YtplgegffapikoabDoorLr21
import Derived.Test.YtplgegffapikoabDoorLr09
import Derived.Outline
import Derived.Deep.DeepMust
import Derived.BigQuiet
import Derived.Deep.QuietTactic
set_option linter.unusedVariables false
namespace Go.Proofs.YtplgegffapikoabDoor
open Go.RowKit
set_option maxRecDepth 100000 in
set_option maxHeartbeats 800000 in
theorem fields1 (n : Int) (w : World) :
    Calls Tryd.prog 81 (#[.int .i64 n] ++ #[]) w fun e w' => e = .returned (.bool (decide (n < 0 ∨ 536870912 ≤ n))) ∧ Up w w' := by
  show Calls Tryd.prog 81 #[.int .i64 n] w _
  by_cases h : n < 0
  all_goals
    go_enter Tryd.func81, Tryd.ntmps81
    go_wp2_with fail
    go_ret
    refine ⟨ret_bool ?_, Up.refl _⟩
    (rw [Bool.eq_iff_iff]; simp only [Bool.or_eq_true, decide_eq_true_eq, true_iff]; omega)
set_option maxRecDepth 100000 in
set_option maxHeartbeats 800000 in
theorem items1 (x : Itm) (b : Nat) (y : Itm) (cs : List Value) (w : World) (hb : b < w.heap.size) (hc : w.cell? ⟨b, 0, none⟩ = some (.string ⟨x.name.toArray⟩)) (hd : DItm All w y cs) :
    Calls Tryd.prog 88 (#[.agg cs.toArray] ++ #[.pointer (some ⟨b, 0, none⟩)]) w fun e w' => e = .returned (.bool (x.name == y.name)) ∧ Up w w' := by
  obtain ⟨hd, _, _⟩ := hd
  subst hd
  show Calls Tryd.prog 88 #[.agg #[.string ⟨y.name.toArray⟩, .int .i64 y.value], .pointer (some ⟨b, 0, none⟩)] w _
  have hne : b ≠ w.heap.size := by omega
  go_enter Tryd.func88, Tryd.ntmps88
  go_wp2_with fail
  go_ret
  exact ⟨ret_bool (by simp), (Up.refl w).alloc _⟩
set_option maxRecDepth 100000 in
set_option maxHeartbeats 800000 in
theorem items2 (x : Itm) (b : Nat) (y : Itm) (cs : List Value) (w : World) (hb : b < w.heap.size) (hc : w.cell? ⟨b, 1, none⟩ = some (.int .i64 x.value)) (hd : DItm All w y cs) :
    Calls Tryd.prog 89 (#[.agg cs.toArray] ++ #[.pointer (some ⟨b, 0, none⟩)]) w fun e w' => e = .returned (.bool (x.value == y.value)) ∧ Up w w' := by
  obtain ⟨hd, _, _⟩ := hd
  subst hd
  show Calls Tryd.prog 89 #[.agg #[.string ⟨y.name.toArray⟩, .int .i64 y.value], .pointer (some ⟨b, 0, none⟩)] w _
  have hne : b ≠ w.heap.size := by omega
  go_enter Tryd.func89, Tryd.ntmps89
  go_wp2_with fail
  go_ret
  exact ⟨ret_bool (by simp), (Up.refl w).alloc _⟩
set_option maxRecDepth 100000 in
set_option maxHeartbeats 800000 in
theorem fields2 (x : Fld) (c b o : Nat) (y : Fld) (cs : List Value) (w : World) (hb : b < w.heap.size) (hcz : c < w.heap.size) (hp : w.cell? ⟨c, 0, none⟩ = some (.pointer (some ⟨b, o, none⟩))) (hc : w.cell? ⟨b, o, none⟩ = some (.string ⟨x.name.toArray⟩)) (hd : DFld All w y cs) :
    Calls Tryd.prog 83 (#[.agg cs.toArray] ++ #[.pointer (some ⟨c, 0, none⟩)]) w fun e w' => e = .returned (.bool (x.name == y.name)) ∧ Up w w' := by
  obtain ⟨hd, _, _⟩ := hd
  subst hd
  show Calls Tryd.prog 83 #[.agg #[.string ⟨y.name.toArray⟩, .int .i64 y.number, .int .i64 y.kind, .string ⟨y.type.toArray⟩, .bool y.many, .int .i64 y.choice], .pointer (some ⟨c, 0, none⟩)] w _
  have hne : b ≠ w.heap.size := by omega
  have hne2 : c ≠ w.heap.size := by omega
  go_enter Tryd.func83, Tryd.ntmps83
  go_wp2_with fail
  go_quiet (fail)
  go_wp2_with fail
  go_ret
  exact ⟨ret_bool (by simp), ((Up.refl w).alloc _).drewN _⟩
set_option maxRecDepth 100000 in
set_option maxHeartbeats 800000 in
theorem fields3 (x : Fld) (c b o : Nat) (y : Fld) (cs : List Value) (w : World) (hb : b < w.heap.size) (hcz : c < w.heap.size) (hp : w.cell? ⟨c, 0, none⟩ = some (.pointer (some ⟨b, o, none⟩))) (hc : w.cell? ⟨b, o + 1, none⟩ = some (.int .i64 x.number)) (hd : DFld All w y cs) :
    Calls Tryd.prog 85 (#[.agg cs.toArray] ++ #[.pointer (some ⟨c, 0, none⟩)]) w fun e w' => e = .returned (.bool (x.number == y.number)) ∧ Up w w' := by
  obtain ⟨hd, _, _⟩ := hd
  subst hd
  show Calls Tryd.prog 85 #[.agg #[.string ⟨y.name.toArray⟩, .int .i64 y.number, .int .i64 y.kind, .string ⟨y.type.toArray⟩, .bool y.many, .int .i64 y.choice], .pointer (some ⟨c, 0, none⟩)] w _
  have hne : b ≠ w.heap.size := by omega
  have hne2 : c ≠ w.heap.size := by omega
  go_enter Tryd.func85, Tryd.ntmps85
  go_wp2_with fail
  go_quiet (fail)
  go_wp2_with fail
  go_ret
  exact ⟨ret_bool (by simp), ((Up.refl w).alloc _).drewN _⟩
end Go.Proofs.YtplgegffapikoabDoor
