/-
  What a linked file is, in plain Lean.
-/
import Derived.Test.YtplgegffapikoaaWrongPlain
import Derived.Test.YtplgegffapikoaaClone
set_option linter.unusedVariables false
namespace Go.Proofs.Ytplgegffapikoaa
open Go.RowKit
def linkX (f : Fil) (x : Fld) : Fld := if x.kind = 10 ∧ idxP (fun m => m.name == x.type) f.msgs < 0 ∧ 0 ≤ idxP (fun e => e.name == x.type) f.enums then { x with kind := 5 } else x
def linkM (f : Fil) (m : Msg) : Msg := { m with fields := m.fields.map (linkX f) }
def linkF (f : Fil) : Fil := ⟨f.msgs.map (linkM f), f.enums⟩
def linkN (f : Fil) : Fil × Int × Nat := if (wrongN (linkF f)).1 ≠ 0 then (⟨[], []⟩, wrongN (linkF f)) else (linkF f, 0, 0)
def FilSz (f : Fil) : Prop := f.msgs.length * 64 ≤ 140737488355328 ∧ f.enums.length * 40 ≤ 140737488355328 ∧ (∀ m ∈ f.msgs, m.fields.length * 64 ≤ 140737488355328 ∧ m.barred.length * 8 ≤ 140737488355328) ∧ ∀ e ∈ f.enums, e.items.length * 24 ≤ 140737488355328
abbrev No : Nat → Prop := fun _ => False
theorem linkX_ok {S : Nat → Prop} {w : World} {f : Fil} {x : Fld} (hx : okI x.number ∧ okI x.kind ∧ okI x.choice ∧ okS x.name ∧ okS x.type) : okI (linkX f x).number ∧ okI (linkX f x).kind ∧ okI (linkX f x).choice ∧ okS (linkX f x).name ∧ okS (linkX f x).type := by
  unfold linkX
  split
  · exact ⟨hx.1, (show okI 5 from ⟨by decide, by decide⟩), hx.2.2⟩
  · exact hx
theorem eMsg : Elem Try.prog 42 70 3 64 (.agg #[.string .empty, .slice none 0 0, .slice none 0 0]) := ⟨Try.underlying42, info_parts (by kernel_rfl), rfl, by decide⟩
theorem eEnu : Elem Try.prog 43 87 2 40 (.agg #[.string .empty, .slice none 0 0]) := ⟨Try.underlying43, info_parts (by kernel_rfl), rfl, by decide⟩
theorem filV_nil (w : World) : FilV All w (.agg #[.slice none 0 0, .slice none 0 0]) ⟨[], []⟩ :=
  ⟨_, _, rfl, ⟨none, 0, rfl, by simp, by unfold maxLen; omega, fun _ => rfl, fun i hi => by simp at hi⟩, ⟨none, 0, rfl, by simp, by unfold maxLen; omega, fun _ => rfl, fun i hi => by simp at hi⟩⟩
/-- What is read lies in blocks that are there. -/
theorem RdS.lt {α : Type} {D : Lay α} (hD : Stable D) {size : Nat} {w : World} {v : Value} {l : List α} (h : RdS D size All w v l) : RdS D size (Lt w) w v l := h.keep hD (Keep.lt (S := All))

theorem FilV.setCell {S : Nat → Prop} {w : World} {v : Value} {f : Fil} (h : FilV S w v f) {p : Addr} (hp : ¬ S p.block) (u : Value) : FilV S (w.setCell p u) v f := h.keep (Keep.setCell hp u)
theorem FilV.alloc {S : Nat → Prop} {w : World} {v : Value} {f : Fil} (h : FilV S w v f) (o : Obj) : FilV S (w.alloc o) v f := h.keep (Keep.alloc o)
theorem FilV.all {S : Nat → Prop} {w : World} {v : Value} {f : Fil} (h : FilV S w v f) : FilV All w v f := h.keep (Keep.weak (fun _ _ => trivial))
end Go.Proofs.Ytplgegffapikoaa
