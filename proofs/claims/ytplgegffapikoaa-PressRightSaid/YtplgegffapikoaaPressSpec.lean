/-
  What a file's programs are, in plain Lean.
-/
import Derived.Test.YtplgegffapikoaaWrongPlain
set_option linter.unusedVariables false
namespace Go.Proofs.Ytplgegffapikoaa
open Go.RowKit
structure Stp where
  kind : Int
  number : Int
  how : Int
  field : Int
  next : Int
deriving DecidableEq
def DStp : Lay Stp := fun _ _ s cs => cs = [.int .i64 s.kind, .int .i64 s.number, .int .i64 s.how, .int .i64 s.field, .int .i64 s.next] ∧ okI s.kind ∧ okI s.number ∧ okI s.how ∧ okI s.field ∧ okI s.next
def DPrg : Lay (List Stp) := fun S w p cs => ∃ v, cs = [v] ∧ RdS DStp 5 S w v p
theorem stable_stp : Stable DStp := fun _ _ _ _ _ _ _ h => h
theorem stable_prg : Stable DPrg := stable_rdS stable_stp 5
theorem pure_stp : ∀ S S' w w' a cs, DStp S w a cs → DStp S' w' a cs := fun _ _ _ _ _ _ h => h
/-- How a kind's records go on. -/
def howN (k : Int) : Int := if k = 6 then 1 else if k = 7 then 5 else if k = 8 ∨ k = 9 ∨ k = 10 then 2 else 0
/-- The numbers of a message's fields, rising. -/
def numsN (m : Msg) : List Int := (m.fields.map (·.number)).mergeSort (fun x y => decide (x ≤ y))
/-- The step of a field. -/
def stepX (f : Fil) (x : Fld) : Stp := ⟨if x.kind = 10 then 4 else if howN x.kind = 2 then 3 else if x.many then 2 else 1, x.number, howN x.kind, x.kind, if x.kind = 10 then idxP (fun m => m.name == x.type) f.msgs else -1⟩
/-- The field of a number. -/
def fldN (m : Msg) (n : Int) : Fld := (m.fields.find? (fun x => x.number == n)).getD ⟨[], 0, 0, [], false, 0⟩
def prgN (f : Fil) (m : Msg) : List Stp := (numsN m).map (fun n => stepX f (fldN m n))
def makeN (f : Fil) : List (List Stp) := f.msgs.map (prgN f)
theorem idxP_find {α : Type} (p : α → Bool) : ∀ (l : List α), 0 ≤ idxP p l → ∃ (k : Nat) (h : k < l.length), idxP p l = k ∧ l.find? p = some l[k] ∧ p l[k] = true
  | [], h => by simp [idxP] at h
  | a :: l, h => by
    unfold idxP at h ⊢
    by_cases hp : p a = true
    · exact ⟨0, by simp, by simp [hp], by simp [hp], by simpa using hp⟩
    · rw [if_neg hp] at h ⊢
      by_cases h0 : 0 ≤ idxP p l
      · obtain ⟨k, hk, e1, e2, e3⟩ := idxP_find p l h0
        refine ⟨k + 1, by simpa using hk, ?_, ?_, by simpa using e3⟩
        · simp only [e1]; split <;> omega
        · rw [List.find?_cons_of_neg hp]; simpa using e2
      · split at h <;> omega
theorem idxP_mem {α : Type} (p : α → Bool) (l : List α) (a : α) (ha : a ∈ l) (hp : p a = true) : 0 ≤ idxP p l := by
  have := idxP_any p l
  have h2 : l.any p = true := List.any_eq_true.2 ⟨a, ha, hp⟩
  rw [h2] at this
  exact of_decide_eq_true this
end Go.Proofs.Ytplgegffapikoaa
