/-
  presslaw6: file, Run of alive's.
-/
import Derived.Test.YtplgegffapikoaaOwn
import Derived.Test.YtplgegffapikoaaPressSpec
import Derived.Test.YtplgegffapikoaaBase3
set_option linter.unusedVariables false
namespace Go.Proofs.Ytplgegffapikoaa
open Go.RowKit
def aliveFl : List Fld := [⟨[120], 1, 2, [], true, 0⟩, ⟨[121], 2, 10, [65], false, 0⟩]
def aliveMs : List Msg := [⟨[65], aliveFl, []⟩]
def aliveF : Fil := ⟨aliveMs, []⟩
theorem aliveOk : ∀ x ∈ aliveFl, okI x.number ∧ okI x.kind ∧ okI x.choice ∧ okS x.name ∧ okS x.type := by unfold aliveFl okI okS; simp
set_option maxRecDepth 100000 in
set_option maxHeartbeats 800000 in
theorem prfile_any (w : World) :
    Calls Try.prog 62 #[] w fun e w' => ∃ v, e = .returned v ∧ FilV All w' v aliveF ∧ Up w w' := by
  go_enter Try.func62, Try.ntmps62
  go_wp2_with fail
  have hb0 : (((w.alloc (.cells #[.slice (some ⟨w.heap.size + 1 + 1, 0, none⟩) 1 1, .slice none 0 0] 45)).alloc (.cells #[.string ⟨#[120]⟩, .int .i64 1, .int .i64 2, .string ⟨#[]⟩, .bool true, .int .i64 0, .string ⟨#[121]⟩, .int .i64 2, .int .i64 10, .string ⟨#[65]⟩, .bool false, .int .i64 0] 74)).alloc (.cells #[.string ⟨#[65]⟩, .slice (some ⟨w.heap.size + 1, 0, none⟩) 2 2, .slice none 0 0] 70)).heap[w.heap.size]? = some (.cells #[.slice (some ⟨w.heap.size + 1 + 1, 0, none⟩) 1 1, .slice none 0 0] 45 (0, 0)) := blk_old _ (blk_old _ (blk_new w _ rfl))
  have hb1 : (((w.alloc (.cells #[.slice (some ⟨w.heap.size + 1 + 1, 0, none⟩) 1 1, .slice none 0 0] 45)).alloc (.cells #[.string ⟨#[120]⟩, .int .i64 1, .int .i64 2, .string ⟨#[]⟩, .bool true, .int .i64 0, .string ⟨#[121]⟩, .int .i64 2, .int .i64 10, .string ⟨#[65]⟩, .bool false, .int .i64 0] 74)).alloc (.cells #[.string ⟨#[65]⟩, .slice (some ⟨w.heap.size + 1, 0, none⟩) 2 2, .slice none 0 0] 70)).heap[w.heap.size + 1]? = some (.cells ([[.string ⟨#[120]⟩, .int .i64 1, .int .i64 2, .string ⟨#[]⟩, .bool true, .int .i64 0], [.string ⟨#[121]⟩, .int .i64 2, .int .i64 10, .string ⟨#[65]⟩, .bool false, .int .i64 0]] : List (List Value)).flatten.toArray 74 (0, 0)) := blk_old _ (blk_new (w.alloc _) _ (by simp))
  have hb2 : (((w.alloc (.cells #[.slice (some ⟨w.heap.size + 1 + 1, 0, none⟩) 1 1, .slice none 0 0] 45)).alloc (.cells #[.string ⟨#[120]⟩, .int .i64 1, .int .i64 2, .string ⟨#[]⟩, .bool true, .int .i64 0, .string ⟨#[121]⟩, .int .i64 2, .int .i64 10, .string ⟨#[65]⟩, .bool false, .int .i64 0] 74)).alloc (.cells #[.string ⟨#[65]⟩, .slice (some ⟨w.heap.size + 1, 0, none⟩) 2 2, .slice none 0 0] 70)).heap[w.heap.size + 1 + 1]? = some (.cells ([[.string ⟨#[65]⟩, .slice (some ⟨w.heap.size + 1, 0, none⟩) 2 2, .slice none 0 0]] : List (List Value)).flatten.toArray 70 (0, 0)) := blk_new ((w.alloc _).alloc _) _ (by simp)
  have hu : Up w (((w.alloc (.cells #[.slice (some ⟨w.heap.size + 1 + 1, 0, none⟩) 1 1, .slice none 0 0] 45)).alloc (.cells #[.string ⟨#[120]⟩, .int .i64 1, .int .i64 2, .string ⟨#[]⟩, .bool true, .int .i64 0, .string ⟨#[121]⟩, .int .i64 2, .int .i64 10, .string ⟨#[65]⟩, .bool false, .int .i64 0] 74)).alloc (.cells #[.string ⟨#[65]⟩, .slice (some ⟨w.heap.size + 1, 0, none⟩) 2 2, .slice none 0 0] 70)) := (((Up.refl w).alloc _).alloc _).alloc _
  generalize (((w.alloc (.cells #[.slice (some ⟨w.heap.size + 1 + 1, 0, none⟩) 1 1, .slice none 0 0] 45)).alloc (.cells #[.string ⟨#[120]⟩, .int .i64 1, .int .i64 2, .string ⟨#[]⟩, .bool true, .int .i64 0, .string ⟨#[121]⟩, .int .i64 2, .int .i64 10, .string ⟨#[65]⟩, .bool false, .int .i64 0] 74)).alloc (.cells #[.string ⟨#[65]⟩, .slice (some ⟨w.heap.size + 1, 0, none⟩) 2 2, .slice none 0 0] 70)) = wz at *
  have r0 : wz.cell? ⟨w.heap.size, 0, none⟩ = _ := cell_of_row wz _ 0 _ _ _ hb0
  have r1 : wz.cell? ⟨w.heap.size, 1, none⟩ = _ := cell_of_row wz _ 1 _ _ _ hb0
  have rz : w.heap.size < wz.heap.size := lt_of_block hb0
  refine bodyPost_ret (v := .agg #[.slice (some ⟨w.heap.size + 1 + 1, 0, none⟩) 1 1, .slice none 0 0]) (by simp [results, Try.results62, go_sem, r0, r1, rz]) rfl ?_
  have hfl : RdS DFld 6 All wz (.slice (some ⟨w.heap.size + 1, 0, none⟩) 2 2) aliveFl := by
    refine rdS_of_block (S := All) aliveFl [[.string ⟨#[120]⟩, .int .i64 1, .int .i64 2, .string ⟨#[]⟩, .bool true, .int .i64 0], [.string ⟨#[121]⟩, .int .i64 2, .int .i64 10, .string ⟨#[65]⟩, .bool false, .int .i64 0]] hb1 rfl trivial rfl (fun i hi => ?_) rfl (by omega) (by unfold maxLen; omega)
    match i, hi with
    | 0, _ => exact ⟨_, rfl, rfl, rfl, aliveOk _ (List.getElem_mem _)⟩
    | 1, _ => exact ⟨_, rfl, rfl, rfl, aliveOk _ (List.getElem_mem _)⟩
  refine ⟨_, rfl, ⟨_, _, rfl, ?_, ⟨none, 0, rfl, by simp [aliveF], by unfold maxLen; omega, fun _ => rfl, fun i hi => by simp [aliveF] at hi⟩⟩, hu⟩
  refine rdS_of_block (S := All) aliveMs [[.string ⟨#[65]⟩, .slice (some ⟨w.heap.size + 1, 0, none⟩) 2 2, .slice none 0 0]] hb2 rfl trivial rfl (fun i hi => ?_) rfl (by omega) (by unfold maxLen; omega)
  match i, hi with
  | 0, _ => exact ⟨_, rfl, rfl, _, _, rfl, hfl, ⟨none, 0, rfl, by simp [aliveMs], by unfold maxLen; omega, fun _ => rfl, fun i hi => by simp [aliveMs] at hi⟩, by unfold okS; simp [aliveMs]⟩
end Go.Proofs.Ytplgegffapikoaa
