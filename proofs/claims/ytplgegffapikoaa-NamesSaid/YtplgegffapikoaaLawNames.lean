/-
  presstop.Names.
-/
import Derived.Test.YtplgegffapikoaaProg
import Derived.Test.YtplgegffapikoaaBase3
import Derived.Test.YtplgegffapikoaaSame
import Derived.Outline
import Derived.Deep.DeepMust
import Derived.Deep.QuietTactic
import Derived.BigQuiet
set_option linter.unusedVariables false
namespace Go.Proofs.Ytplgegffapikoaa
open Go.RowKit

theorem cell_lit (w : World) (cs : Array Value) (t : TypeId) (k : Nat) : (w.alloc (.cells cs t)).cell? ⟨w.heap.size, k, none⟩ = cs[k]? :=
  cell_of_row (w.alloc (.cells cs t)) w.heap.size k cs t (0, 0) (heap_alloc_new w _)

def names27 : List Int := [0, 1, 2, 5, 536870912, 4000, 1, 2, 3, 4, 5, 6, 7, 8, 9, 10, 3000, 10, 16, 16, 16, 12, 1, 2, 3, 4, 60]
theorem names27_len : names27.length = 27 := rfl

theorem names_cell (w : World) (k : Nat) (hk : k < 27) (t : TypeId) : (w.alloc (.cells (names27.map (Value.int .i64)).toArray t)).cell? ⟨w.heap.size, k, none⟩ = some (.int .i64 (names27.getD k 0)) := by
  rw [cell_lit]
  have h : k < names27.length := hk
  simp [h, List.getD]

set_option maxRecDepth 100000 in
set_option maxHeartbeats 800000 in
theorem names_any (w : World) :
    Calls Try.prog 7 #[] w fun e w' => e = .returned (.bool true) ∧ Up w w' := by
  go_enter Try.func7, Try.ntmps7
  go_wp2_with fail
  go_loopw [10] (fun i wr => ∃ k : Nat, k ≤ 11 ∧ i = .int .i64 k ∧ wr = w.alloc (Obj.cells #[Value.int IntKind.i64 0, Value.int IntKind.i64 1, Value.int IntKind.i64 2, Value.int IntKind.i64 3, Value.int IntKind.i64 4, Value.int IntKind.i64 5, Value.int IntKind.i64 6, Value.int IntKind.i64 7, Value.int IntKind.i64 8, Value.int IntKind.i64 9, Value.int IntKind.i64 10] 26)) (fun i _ => 11 - (intOf i).toNat)
  case atStart => exact ⟨0, by omega, rfl, rfl⟩
  case round =>
    obtain ⟨k, hk, rfl, rfl⟩ := hrel
    by_cases hlt : k < 11
    · have hcc : (w.alloc (Obj.cells #[Value.int IntKind.i64 0, Value.int IntKind.i64 1, Value.int IntKind.i64 2, Value.int IntKind.i64 3, Value.int IntKind.i64 4, Value.int IntKind.i64 5, Value.int IntKind.i64 6, Value.int IntKind.i64 7, Value.int IntKind.i64 8, Value.int IntKind.i64 9, Value.int IntKind.i64 10] 26)).cell? ⟨w.heap.size, k, none⟩ = some (.int .i64 k) := by
        rw [cell_lit]
        rcases (by omega : k = 0 ∨ k = 1 ∨ k = 2 ∨ k = 3 ∨ k = 4 ∨ k = 5 ∨ k = 6 ∨ k = 7 ∨ k = 8 ∨ k = 9 ∨ k = 10) with rfl | rfl | rfl | rfl | rfl | rfl | rfl | rfl | rfl | rfl | rfl <;> rfl
      go_wp2_with fail
      go_roundw
      case rel => exact ⟨k + 1, by omega, by go_num, trivial⟩
      case measure => simp [intOf]; omega
    · go_wp2_with fail
      generalize hW0 : (w.alloc (Obj.cells #[Value.int IntKind.i64 0, Value.int IntKind.i64 1, Value.int IntKind.i64 2, Value.int IntKind.i64 3, Value.int IntKind.i64 4, Value.int IntKind.i64 5, Value.int IntKind.i64 6, Value.int IntKind.i64 7, Value.int IntKind.i64 8, Value.int IntKind.i64 9, Value.int IntKind.i64 10] 26)) = w0
      have hs0 : w.heap.size + 1 = w0.heap.size := by rw [← hW0]; simp
      have hb0 : Up w w0 := by rw [← hW0]; exact (Up.refl w).alloc _
      clear hW0
      rw [hs0]
      have c2 : ∀ j, j < 27 → ((w0.alloc (.cells (names27.map (Value.int .i64)).toArray 3)).alloc (.cells (names27.map (Value.int .i64)).toArray 3)).cell? ⟨w0.heap.size + 1, j, none⟩ = some (.int .i64 (names27.getD j 0)) := fun j hj => by
        have := names_cell (w0.alloc (.cells (names27.map (Value.int .i64)).toArray 3)) j hj 3
        simpa using this
      have c3 : ∀ j, j < 27 → ((w0.alloc (.cells (names27.map (Value.int .i64)).toArray 3)).alloc (.cells (names27.map (Value.int .i64)).toArray 3)).cell? ⟨w0.heap.size, j, none⟩ = some (.int .i64 (names27.getD j 0)) := fun j hj => by
        rw [World.cell?_alloc_lt _ _ _ (by simp)]; exact names_cell w0 j hj 3
      have hb1 : Up w ((w0.alloc (.cells (names27.map (Value.int .i64)).toArray 3)).alloc (.cells (names27.map (Value.int .i64)).toArray 3)) := (hb0.alloc _).alloc _
      simp only [names27, List.map_cons, List.map_nil] at c2 c3 hb1
      generalize w0.heap.size + 1 = g2 at *
      generalize w0.heap.size = g1 at *
      have C2 := Lib.hid c2; have C3 := Lib.hid c3; clear c2 c3
      generalize (w0.alloc _).alloc _ = w1 at *
      go_wp2_with fail
      go_loopw [23] (fun i wr => ∃ k : Nat, k ≤ 27 ∧ i = .int .i64 k ∧ ∃ n, wr = w1.drewN n) (fun i _ => 27 - (intOf i).toNat)
      case atStart => exact ⟨0, by omega, rfl, 0, rfl⟩
      case round =>
        obtain ⟨k, hk, rfl, nw, rfl⟩ := hrel
        by_cases hlt : k < 27
        · have i0 : (0 : Int) ≤ (k : Int) := by omega
          have i1 : (k : Int) < 27 := by omega
          have d2 := C2.out k hlt
          have d3 := C3.out k hlt
          generalize ([0, 1, 2, 5, 536870912, 4000, 1, 2, 3, 4, 5, 6, 7, 8, 9, 10, 3000, 10, 16, 16, 16, 12, 1, 2, 3, 4, 60] : List Int).getD k 0 = x at *
          have hx : (x != x) = false := by simp
          go_wp2_with fail
          go_quiet (fail)
          go_wp2_with fail
          go_roundw
          case rel => exact ⟨k + 1, by omega, by go_num, _, rfl⟩
          case measure => simp [intOf]; omega
        · go_wp2_with fail
          go_ret
          exact ⟨rfl, Up.drewN hb1 _⟩
end Go.Proofs.Ytplgegffapikoaa
