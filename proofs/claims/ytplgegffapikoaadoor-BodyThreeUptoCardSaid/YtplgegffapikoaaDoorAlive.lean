/-
  presslaw4.file, and the values that presslaw4.alive asks with.
-/
import Derived.Test.YtplgegffapikoaaDoorPt33
set_option linter.unusedVariables false
namespace Go.Proofs.YtplgegffapikoaaDoor
open Go.RowKit
/-- A block that holds a list, element by element. -/
theorem rds_block {α : Type} {D : Lay α} {size : Nat} {S : Nat → Prop} {W : World} {g : Nat} {cs : Array Value} {t : TypeId} {l : List α} (hb : W.heap[g]? = some (.cells cs t (0, 0))) (hS : S g) (hm : l.length ≤ maxLen) (hd : ∀ i, (hi : i < l.length) → ((cs.toList.drop (i * size)).take size).length = size ∧ D S W l[i] ((cs.toList.drop (i * size)).take size)) :
    RdS D size S W (.slice (some ⟨g, 0, none⟩) l.length l.length) l := by
  refine ⟨some ⟨g, 0, none⟩, l.length, rfl, Nat.le_refl _, hm, (fun h => by cases h), fun i hi => ?_⟩
  obtain ⟨h1, h2⟩ := hd i hi
  refine ⟨g, 0, (cs.toList.drop (i * size)).take size, rfl, hS, lt_of_block hb, h1, fun j u hu => ?_, h2⟩
  have hj : j < size := by have := (List.getElem?_eq_some_iff.1 hu).1; omega
  rw [List.getElem?_take_of_lt hj, List.getElem?_drop, Array.getElem?_toList] at hu
  rw [Nat.zero_add]
  have hj2 := (Array.getElem?_eq_some_iff.1 hu).1
  exact cell_of_row W g (i * size + j) _ _ _ hb |>.trans (by simpa using hu)
def fileA : Fil := ⟨[⟨[65], [⟨[120], 1, 1, [], false, 0⟩, ⟨[121], 2, 8, [], true, 0⟩], []⟩], []⟩
def bodA : Bod := .mk [(1, [5], [], []), (2, [], [[113]], [])] []
def bodB : Bod := .mk [(1, [5], [], []), (2, [], [[113], [113]], [])] []
set_option maxRecDepth 100000 in
set_option maxHeartbeats 1600000 in
theorem file_a (w : World) : Calls Tryd.prog 43 #[] w fun e w' => ∃ mb, e = .returned (.agg #[.slice (some ⟨mb, 0, none⟩) 1 1, .slice none 0 0]) ∧ FilV All w' (.agg #[.slice (some ⟨mb, 0, none⟩) 1 1, .slice none 0 0]) fileA ∧ Up w w' := by
  go_enter Tryd.func43, Tryd.ntmps43
  go_wp2_with fail
  generalize hW : ((w.alloc (.cells #[.slice (some ⟨w.heap.size + 1 + 1, 0, none⟩) 1 1, .slice none 0 0] 25)).alloc (.cells #[.string ⟨#[120]⟩, .int .i64 1, .int .i64 1, .string ⟨#[]⟩, .bool false, .int .i64 0, .string ⟨#[121]⟩, .int .i64 2, .int .i64 8, .string ⟨#[]⟩, .bool true, .int .i64 0] 53)).alloc (.cells #[.string ⟨#[65]⟩, .slice (some ⟨w.heap.size + 1, 0, none⟩) 2 2, .slice none 0 0] 48) = W
  have hb0 : W.heap[w.heap.size]? = some (.cells #[.slice (some ⟨w.heap.size + 1 + 1, 0, none⟩) 1 1, .slice none 0 0] 25 (0, 0)) := by rw [← hW]; exact blk_old _ (blk_old _ (blk_new w _ rfl))
  have hb1 : W.heap[w.heap.size + 1]? = some (.cells #[.string ⟨#[120]⟩, .int .i64 1, .int .i64 1, .string ⟨#[]⟩, .bool false, .int .i64 0, .string ⟨#[121]⟩, .int .i64 2, .int .i64 8, .string ⟨#[]⟩, .bool true, .int .i64 0] 53 (0, 0)) := by rw [← hW]; exact blk_old _ (blk_new (w.alloc _) _ (by simp))
  have hb2 : W.heap[w.heap.size + 1 + 1]? = some (.cells #[.string ⟨#[65]⟩, .slice (some ⟨w.heap.size + 1, 0, none⟩) 2 2, .slice none 0 0] 48 (0, 0)) := by rw [← hW]; exact blk_new ((w.alloc _).alloc _) _ (by simp)
  have hu : Up w W := by rw [← hW]; exact (((Up.refl w).alloc _).alloc _).alloc _
  clear hW
  have r0 : W.cell? ⟨w.heap.size, 0, none⟩ = some (.slice (some ⟨w.heap.size + 1 + 1, 0, none⟩) 1 1) := cell_of_row W _ 0 _ _ _ hb0
  have r1 : W.cell? ⟨w.heap.size, 1, none⟩ = some (.slice none 0 0) := cell_of_row W _ 1 _ _ _ hb0
  have hsz : w.heap.size < W.heap.size := lt_of_block hb0
  refine bodyPost_ret (v := .agg #[.slice (some ⟨w.heap.size + 1 + 1, 0, none⟩) 1 1, .slice none 0 0]) (by simp [results, Tryd.results43, go_sem, r0, r1]) rfl ?_
  refine ⟨_, rfl, ⟨_, _, rfl, rds_block (l := fileA.msgs) hb2 trivial (by decide) (fun i hi => ?_), rdS_nil _ _ _ _⟩, hu⟩
  have hi0 : i = 0 := by have h : i < 1 := hi; omega
  subst hi0
  refine ⟨rfl, _, _, rfl, rds_block (l := (fileA.msgs[0]).fields) hb1 trivial (show (2 : Nat) ≤ maxLen by decide) (fun j hj => ?_), rdS_nil _ _ _ _, (show okS [65] by unfold okS; decide)⟩
  have hj2 : j < 2 := hj
  rcases j with _ | _ | j
  · exact ⟨rfl, rfl, (show okI 1 by unfold okI; decide), (show okI 1 by unfold okI; decide), (show okI 0 by unfold okI; decide), (show okS [120] by unfold okS; decide), (show okS [] by unfold okS; decide)⟩
  · exact ⟨rfl, rfl, (show okI 2 by unfold okI; decide), (show okI 8 by unfold okI; decide), (show okI 0 by unfold okI; decide), (show okS [121] by unfold okS; decide), (show okS [] by unfold okS; decide)⟩
  · omega
end Go.Proofs.YtplgegffapikoaaDoor
