/-
  Records, as they come in.
-/
import Derived.Test.YtplgegffapikoaaProg
import Derived.Test.YtplgegffapikoaaOpen
set_option linter.unusedVariables false
namespace Go.Proofs.Ytplgegffapikoaa
open Go.RowKit

instance : Inhabited Rec := ⟨rec0⟩
theorem list4 {α : Type} {l : List α} (h : l.length = 4) : ∃ a b c d, l = [a, b, c, d] := by
  match l, h with
  | [a, b, c, d], _ => exact ⟨a, b, c, d, rfl⟩
theorem reads_bytes : Reads Try.prog 23 (fun S w l cs => ∃ v, cs = [v] ∧ RdB S w v l) := reads_slice Try.underlying23 (by kernel_rfl) (by decide) (reads_u8 Try.underlying5)
theorem cells_rec : Try.prog.cellsOf 78 = 4 := by kernel_rfl
theorem cells_int : Try.prog.cellsOf 3 = 1 := by kernel_rfl
theorem cells_u64 : Try.prog.cellsOf 22 = 1 := by kernel_rfl
theorem cells_bytes : Try.prog.cellsOf 23 = 1 := by kernel_rfl
theorem reads_rec : Reads Try.prog 78 DRec := fun enc w base spare held fuel cs x h => by
  obtain ⟨xs, n, _, _, hl, hlen, hf⟩ := DataW.trod_struct Try.underlying78 h
  rw [cells_rec] at hl
  obtain ⟨c0, c1, c2, c3, rfl⟩ := list4 hl
  obtain ⟨x0, x1, x2, x3, rfl⟩ := list4 (show xs.length = 4 from hlen)
  have h0 : DataW.trod enc Try.prog w base spare held n 3 (List.take (Try.prog.cellsOf 3) [c0, c1, c2, c3]) = some x0 := hf 0 _ rfl
  rw [cells_int] at h0
  have h1 : DataW.trod enc Try.prog w base spare held n 3 (List.take (Try.prog.cellsOf 3) [c1, c2, c3]) = some x1 := hf 1 _ rfl
  rw [cells_int] at h1
  have h2 : DataW.trod enc Try.prog w base spare held n 22 (List.take (Try.prog.cellsOf 22) [c2, c3]) = some x2 := hf 2 _ rfl
  rw [cells_u64] at h2
  have h3 : DataW.trod enc Try.prog w base spare held n 23 (List.take (Try.prog.cellsOf 23) [c3]) = some x3 := hf 3 _ rfl
  rw [cells_bytes] at h3
  obtain ⟨a0, e0, _⟩ := reads_int Try.underlying3 _ _ _ _ _ _ _ _ h0
  obtain ⟨a1, e1, _⟩ := reads_int Try.underlying3 _ _ _ _ _ _ _ _ h1
  obtain ⟨a2, e2, hb⟩ := reads_u64 Try.underlying22 _ _ _ _ _ _ _ _ h2
  obtain ⟨a3, v, e3, hr⟩ := reads_bytes _ _ _ _ _ _ _ _ h3
  simp at e0 e1 e2 e3
  subst e0 e1 e2 e3
  exact ⟨⟨a0, a1, a2, a3⟩, _, rfl, hr, hb⟩
theorem reads_recs : Reads Try.prog 32 (fun S w l cs => ∃ v, cs = [v] ∧ RdS DRec 4 S w v l) := reads_slice Try.underlying32 cells_rec (by decide) reads_rec
end Go.Proofs.Ytplgegffapikoaa
