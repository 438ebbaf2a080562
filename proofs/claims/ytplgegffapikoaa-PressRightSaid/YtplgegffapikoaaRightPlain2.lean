/-
  A right file's programs are right, in plain Lean.
-/
import Derived.Test.YtplgegffapikoaaRightPlain
set_option linter.unusedVariables false
namespace Go.Proofs.Ytplgegffapikoaa
open Go.RowKit
theorem nums_mem {m : Msg} {n : Int} (h : n ∈ numsN m) : ∃ x ∈ m.fields, x.number = n := by
  unfold numsN at h
  obtain ⟨x, hx, e⟩ := List.mem_map.1 (List.mem_mergeSort.1 h)
  exact ⟨x, hx, e⟩
theorem nums_fld {m : Msg} {n : Int} (h : n ∈ numsN m) : fldN m n ∈ m.fields ∧ (fldN m n).number = n := by
  obtain ⟨x, hx, e⟩ := nums_mem h
  obtain ⟨k, hk, e1, e2, e3⟩ := idxP_find _ _ (idxP_mem (fun x : Fld => x.number == n) m.fields x hx (by simpa using e))
  have e4 : fldN m n = m.fields[k] := by unfold fldN; rw [e2]; rfl
  rw [e4]
  exact ⟨List.getElem_mem hk, by simpa using e3⟩
theorem nums_rise {f : Fil} {m : Msg} (h : ∀ i, (hi : i < m.fields.length) → fieldN f m i m.fields[i] = 0) : ∀ k, (hk : k + 1 < (numsN m).length) → (numsN m)[k] < (numsN m)[k + 1] := by
  intro k hk
  have hs : (numsN m).Pairwise (fun x y => decide (x ≤ y) = true) := List.pairwise_mergeSort (fun a b c h1 h2 => by simp at *; omega) (fun a b => by simp; omega) _
  have hle := (List.pairwise_iff_getElem.1 hs) k (k + 1) (by omega) hk (by omega)
  have hnd : (m.fields.map (·.number)).Pairwise (· ≠ ·) := by
    rw [List.pairwise_iff_getElem]
    intro i j hi hj hij
    simp only [List.length_map] at hi hj
    simp only [List.getElem_map]
    obtain ⟨_, _, _, h4, _⟩ := fieldN_ok (h j hj)
    exact h4 _ (List.mem_iff_getElem.2 ⟨i, by simp; omega, by simp⟩)
  have hnd2 : (numsN m).Pairwise (· ≠ ·) := (List.mergeSort_perm _ _).symm.pairwise hnd (fun h e => h e.symm)
  have hne := (List.pairwise_iff_getElem.1 hnd2) k (k + 1) (by omega) hk (by omega)
  simp at hle
  omega
theorem prg_ok {f : Fil} {m : Msg} (hm : msgN f m = 0) : PrgOk f.msgs.length (prgN f m) := by
  obtain ⟨h1, _, _, h4⟩ := msgN_ok hm
  have hl : (prgN f m).length = m.fields.length := by unfold prgN numsN; simp
  refine ⟨by omega, fun s hs => ?_, fun k hk => ?_⟩
  · obtain ⟨n, hn, rfl⟩ := List.mem_map.1 hs
    obtain ⟨hx, _⟩ := nums_fld hn
    obtain ⟨i, hi, e⟩ := List.getElem_of_mem hx
    rw [← e]
    obtain ⟨a1, a2, _, _, a5⟩ := fieldN_ok (h4 i hi)
    exact step_ok a1 a2 a5
  · unfold prgN at hk ⊢
    rw [List.length_map] at hk
    have h := nums_rise h4 k hk
    have e1 := (nums_fld (List.getElem_mem (show k < (numsN m).length by omega))).2
    have e2 := (nums_fld (List.getElem_mem hk)).2
    simp only [List.getElem_map]
    show (fldN m (numsN m)[k]).number < (fldN m (numsN m)[k + 1]).number
    rw [e1, e2]
    exact h
/-- Is there a field that a step is of? -/
def thereN (s : Stp) (x : Fld) : Bool := x.number == s.number && x.kind == s.field && ((s.kind == 2) == (x.many && howN x.kind != 2))
theorem there_any {f : Fil} {m : Msg} {s : Stp} (hs : s ∈ prgN f m) : m.fields.any (thereN s) = true := by
  obtain ⟨n, hn, rfl⟩ := List.mem_map.1 hs
  obtain ⟨hx, _⟩ := nums_fld hn
  refine List.any_eq_true.2 ⟨_, hx, ?_⟩
  generalize fldN m n = x
  unfold thereN stepX
  by_cases h1 : x.kind = 10
  · simp [h1, howN]
  · by_cases h2 : howN x.kind = 2
    · simp [h1, h2]
    · cases hm : x.many <;> simp [h1, h2]
end Go.Proofs.Ytplgegffapikoaa
