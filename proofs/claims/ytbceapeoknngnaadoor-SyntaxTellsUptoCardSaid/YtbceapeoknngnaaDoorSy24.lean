/-
  The closure that Parse defers.
-/
import Derived.Test.YtbceapeoknngnaaDoorSy23
import Derived.Recover
import Derived.Defers
set_option linter.unusedVariables false
namespace Go.Proofs.YtbceapeoknngnaaDoor
open Go.RowKit
set_option maxRecDepth 100000
open Lib (hid)
set_option maxHeartbeats 1600000 in
theorem catch_idle (F : Nat) (w : World) :
   CallsD Tryd.prog 13 #[.pointer (some ⟨F, 0, none⟩), .pointer (some ⟨F + 1, 0, none⟩)] .returning w fun e u' w' => e = .returned (.tuple #[]) ∧ u' = .returning ∧ w' = w := by
 refine callsD_of_wpS Tryd.func13 rfl fun c₀ cs hu => ?_; apply wpS_seq; apply wpS_region; simp [wpOpsS, go_sem, recoverD, hu, Tryd.ntmps13, Exit.thenS]; refine wpS_of_wp ?_; change Code.wp _ _ _ { tmps := #[.pointer (some ⟨F, 0, none⟩), .pointer (some ⟨F + 1, 0, none⟩), undef, undef, undef, .nilIface, undef, undef, undef, undef, undef, undef, undef, undef], defers := [] } _; (go_wp2_with fail); cases c₀
 simp_all [bodyPostS, results, Tryd.results13]
theorem oops_w (F : Nat) (er : Int) (k : Nat) (vm ve : Value) (w : World) (hf : w.heap[F]? = some (.cells #[vm, ve] 25 (0, 0))) (hz : w.heap[F + 1]? = some (.cells #[.int .i64 0, .int .i64 0] 28 (0, 0))) (o : Obj) :
   ((((((w.setCell ⟨F, 0, none⟩ (.slice none 0 0)).setCell ⟨F, 1, none⟩ (.slice none 0 0)).setCell ⟨F + 1, 0, none⟩ (.int .i64 er)).setCell ⟨F + 1, 1, none⟩ (.int .i64 k)).alloc o).drew).heap[F]? = some (.cells #[.slice none 0 0, .slice none 0 0] 25 (0, 0)) ∧
   ((((((w.setCell ⟨F, 0, none⟩ (.slice none 0 0)).setCell ⟨F, 1, none⟩ (.slice none 0 0)).setCell ⟨F + 1, 0, none⟩ (.int .i64 er)).setCell ⟨F + 1, 1, none⟩ (.int .i64 k)).alloc o).drew).heap[F + 1]? = some (.cells #[.int .i64 er, .int .i64 k] 28 (0, 0)) ∧
   ∀ a : World, Up a w → a.heap.size ≤ F → Up a (((((w.setCell ⟨F, 0, none⟩ (.slice none 0 0)).setCell ⟨F, 1, none⟩ (.slice none 0 0)).setCell ⟨F + 1, 0, none⟩ (.int .i64 er)).setCell ⟨F + 1, 1, none⟩ (.int .i64 k)).alloc o).drew := by
 have a1 := heap_setCell_same _ F 1 _ _ (.slice none 0 0) (heap_setCell_same w F 0 _ _ (.slice none 0 0) hf); have b1 : ((w.setCell ⟨F, 0, none⟩ (.slice none 0 0)).setCell ⟨F, 1, none⟩ (.slice none 0 0)).heap[F + 1]? = _ := (Below.heap_setCell _ ⟨F, 1, none⟩ _ (F + 1) (show F + 1 ≠ F by omega)).trans ((Below.heap_setCell w ⟨F, 0, none⟩ _ (F + 1) (show F + 1 ≠ F by omega)).trans hz); have u2 : ∀ a : World, Up a w → a.heap.size ≤ F → Up a ((w.setCell ⟨F, 0, none⟩ (.slice none 0 0)).setCell ⟨F, 1, none⟩ (.slice none 0 0)) := fun a h hF => Up.setCell (Up.setCell h (p := ⟨F, 0, none⟩) hF _) (p := ⟨F, 1, none⟩) hF _; generalize (w.setCell ⟨F, 0, none⟩ (.slice none 0 0)).setCell ⟨F, 1, none⟩ (.slice none 0 0) = w2 at *; have a2 : ((w2.setCell ⟨F + 1, 0, none⟩ (.int .i64 er)).setCell ⟨F + 1, 1, none⟩ (.int .i64 k)).heap[F]? = _ := (Below.heap_setCell _ ⟨F + 1, 1, none⟩ _ F (show F ≠ F + 1 by omega)).trans ((Below.heap_setCell w2 ⟨F + 1, 0, none⟩ _ F (show F ≠ F + 1 by omega)).trans a1); have b2 := heap_setCell_same _ (F + 1) 1 _ _ (.int .i64 k) (heap_setCell_same w2 (F + 1) 0 _ _ (.int .i64 er) b1); have u4 : ∀ a : World, Up a w → a.heap.size ≤ F → Up a ((w2.setCell ⟨F + 1, 0, none⟩ (.int .i64 er)).setCell ⟨F + 1, 1, none⟩ (.int .i64 k)) := fun a h hF => Up.setCell (Up.setCell (u2 a h hF) (p := ⟨F + 1, 0, none⟩) (show a.heap.size ≤ F + 1 by omega) _) (p := ⟨F + 1, 1, none⟩) (show a.heap.size ≤ F + 1 by omega) _; generalize (w2.setCell ⟨F + 1, 0, none⟩ (.int .i64 er)).setCell ⟨F + 1, 1, none⟩ (.int .i64 k) = w4 at *; have hu := ((Up.refl w4).alloc o).drew; exact ⟨hu.blk a2, hu.blk b2, fun a h hF => (u4 a h hF).trans hu⟩
set_option maxHeartbeats 1600000 in
theorem catch_oops (F : Nat) (er : Int) (k : Nat) (vm ve : Value) (older : List PanicEntry) (w : World) (hf : w.heap[F]? = some (.cells #[vm, ve] 25 (0, 0))) (hz : w.heap[F + 1]? = some (.cells #[.int .i64 0, .int .i64 0] 28 (0, 0))) :
   CallsD Tryd.prog 13 #[.pointer (some ⟨F, 0, none⟩), .pointer (some ⟨F + 1, 0, none⟩)] (.panicking (oopsE er k :: older)) w fun e u' w' =>
     e = .returned (.tuple #[]) ∧ u' = .panicking ({ oopsE er k with recovered := true } :: older) ∧ w'.heap[F]? = some (.cells #[.slice none 0 0, .slice none 0 0] 25 (0, 0)) ∧ w'.heap[F + 1]? = some (.cells #[.int .i64 er, .int .i64 k] 28 (0, 0)) ∧ ∀ a : World, Up a w → a.heap.size ≤ F → Up a w' := by
 refine callsD_of_wpS Tryd.func13 rfl fun c₀ cs hu => ?_; unfold oopsE at hu; apply wpS_seq; apply wpS_region; simp [wpOpsS, go_sem, recoverD, hu, Tryd.ntmps13, Exit.thenS]; refine wpS_of_wp ?_; change Code.wp _ _ _ { tmps := #[.pointer (some ⟨F, 0, none⟩), .pointer (some ⟨F + 1, 0, none⟩), undef, undef, undef, .iface 38 (.agg #[.int .i64 er, .int .i64 k]), undef, undef, undef, undef, undef, undef, undef, undef], defers := [] } _; (have hta : ∀ (v : Value) (w : World), (Instr.typeAssert (.iface 38 v) 20 38 true).run Tryd.prog w = .ok (.tuple #[v, .bool true]) w := fun _ _ => by kernel_rfl); have f0 := cell_of_row w F 0 _ _ _ hf; have f1 := cell_of_row w F 1 _ _ _ hf; have z0 := cell_of_row w (F + 1) 0 _ _ _ hz; have z1 := cell_of_row w (F + 1) 1 _ _ _ hz; have ff := fun o => frozen_of_row w F o _ _ hf; have zf := fun o => frozen_of_row w (F + 1) o _ _ hz; have fz := lt_of_block hf; have zz := lt_of_block hz; have hW := hid (oops_w F er k vm ve w hf hz (.cells #[.int .i64 er, .int .i64 k] 38)); go_wp2_with fail
 go_region
 all_goals
   (go_wp2_with fail); obtain ⟨h1, h2, h3⟩ := hW.out; generalize (((((w.setCell ⟨F, 0, none⟩ (.slice none 0 0)).setCell ⟨F, 1, none⟩ (.slice none 0 0)).setCell ⟨F + 1, 0, none⟩ (.int .i64 er)).setCell ⟨F + 1, 1, none⟩ (.int .i64 k)).alloc (.cells #[.int .i64 er, .int .i64 k] 38)).drew = W at *; exact ⟨rfl, _, rfl, _, results_none rfl _ _ _, rfl, rfl, h1, h2, h3⟩
end Go.Proofs.YtbceapeoknngnaaDoor
