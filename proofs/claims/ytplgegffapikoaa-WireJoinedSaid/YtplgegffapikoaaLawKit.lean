/-
  What the laws need of package wire's functions, in few words.
-/
import Derived.Test.YtplgegffapikoaaWireLaw
import Derived.Test.YtplgegffapikoaaPlainWire4
set_option linter.unusedVariables false
namespace Go.Proofs.Ytplgegffapikoaa
open Go.RowKit
theorem bytes_law (v : Value) (l : List Rec) (w : World) (hv : RdS DRec 4 All w v l) :
    Calls Try.prog 15 #[v] w fun e w' => ∃ a c, e = .returned (.tuple #[.slice a (bytesP l).1.length c, .agg #[.int .i64 (bytesP l).2.1, .int .i64 ((bytesP l).2.2 : Int)]]) ∧ RdB All w' (.slice a (bytesP l).1.length c) (bytesP l).1 ∧ Up w w' := by
  refine (bytes_any v l w hv).mono ?_
  rintro e w' ⟨v', rfl, how, hu⟩
  have h : RdB All w' v' (bytesP l).1 := rdB_of_owns how (fun _ _ => trivial)
  obtain ⟨a, c, rfl, _, _⟩ := h.val
  exact ⟨a, c, rfl, h, hu⟩
theorem parse_law (v : Value) (l : List UInt8) (w : World) (hv : RdB All w v l) :
    Calls Try.prog 16 #[v] w fun e w' => ∃ a c, e = .returned (.tuple #[.slice a (parse l).1.length c, .agg #[.int .i64 (parse l).2.1, .int .i64 ((parse l).2.2 : Int)]]) ∧ RdS DRec 4 All w' (.slice a (parse l).1.length c) (parse l).1 ∧ Up w w' := by
  refine (parse_any v l w hv).mono ?_
  rintro e w' ⟨v', rfl, how, hu⟩
  have h : RdS DRec 4 All w' v' (parse l).1 := how.rd (S' := All) stable_rec (fun _ _ => trivial) (fun _ _ => trivial)
  obtain ⟨a, c, rfl, _, _⟩ := h.val
  exact ⟨a, c, rfl, h, hu⟩
theorem same_law (va vb : Value) (a b : List Rec) (w : World) (hab : a = b) (hva : RdS DRec 4 All w va a) (hvb : RdS DRec 4 All w vb b) :
    Calls Try.prog 17 #[va, vb] w fun e w' => e = .returned (.bool true) ∧ Up w w' := by
  refine (same_any va vb a b w hva hvb).mono ?_
  rintro e w' ⟨t, rfl, ht, hu⟩
  rw [ht.2 hab]
  exact ⟨rfl, hu⟩
theorem rec_bits {S : Nat → Prop} {w : World} {v : Value} {l : List Rec} (h : RdS DRec 4 S w v l) : ∀ r ∈ l, r.bits < 2 ^ 64 := by
  intro r hr
  obtain ⟨i, hi, rfl⟩ := List.getElem_of_mem hr
  obtain ⟨ao, cap, rfl, _, _⟩ := h.val
  obtain ⟨_, _, _, _, _, _, h64, _⟩ := rdRec_cell h hi
  exact h64
theorem parse_err {b : List UInt8} (h : (parse b).2.1 ≠ 0) : (parse b).1 = [] := by
  unfold parse at *
  by_cases h4 : 4000 < b.length
  · rw [if_pos h4]
  · rw [if_neg h4] at h ⊢; exact parseG_err _ _ h
end Go.Proofs.Ytplgegffapikoaa
