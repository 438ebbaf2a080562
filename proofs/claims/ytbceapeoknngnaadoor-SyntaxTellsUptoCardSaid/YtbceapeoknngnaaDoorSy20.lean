/-
  Rows of the call's own: more about them.
  slices.Clone of fields, numbers, items (written by gen_clone.py).
  What a linked file is, in plain Lean.
-/
import Derived.Test.YtbceapeoknngnaaDoorSy07
import Derived.WalkSpells
set_option linter.unusedVariables false
namespace Go.Proofs.YtbceapeoknngnaaDoor
open Go.RowKit
abbrev No : Nat → Prop := fun _ => False
theorem filV_nil (w : World) : FilV All w (.agg #[.slice none 0 0, .slice none 0 0]) ⟨[], []⟩ :=
 ⟨_, _, rfl, ⟨none, 0, rfl, by simp, by unfold maxLen; omega, fun _ => rfl, fun i hi => by simp at hi⟩, ⟨none, 0, rfl, by simp, by unfold maxLen; omega, fun _ => rfl, fun i hi => by simp at hi⟩⟩
theorem RdS.lt {α : Type} {D : Lay α} (hD : Stable D) {size : Nat} {w : World} {v : Value} {l : List α} (h : RdS D size All w v l) : RdS D size (Lt w) w v l := h.keep hD (Keep.lt (S := All))
theorem FilV.setCell {S : Nat → Prop} {w : World} {v : Value} {f : Fil} (h : FilV S w v f) {p : Addr} (hp : ¬ S p.block) (u : Value) : FilV S (w.setCell p u) v f := h.keep (Keep.setCell hp u)
theorem FilV.alloc {S : Nat → Prop} {w : World} {v : Value} {f : Fil} (h : FilV S w v f) (o : Obj) : FilV S (w.alloc o) v f := h.keep (Keep.alloc o)
theorem FilV.all {S : Nat → Prop} {w : World} {v : Value} {f : Fil} (h : FilV S w v f) : FilV All w v f := h.keep (Keep.weak (fun _ _ => trivial))
theorem pure_fld : ∀ S S' w w' a cs, DFld S w a cs → DFld S' w' a cs := fun _ _ _ _ _ _ h => h
theorem pure_int : ∀ S S' w w' a cs, DInt S w a cs → DInt S' w' a cs := fun _ _ _ _ _ _ h => h
theorem OwnS.lo {α : Type} {D : Lay α} {base : Nat} {e : TypeId} {size : Nat} {S : Nat → Prop} {w : World} {v : Value} {l : List α} (h : OwnS D base e size S w v l) : ∀ j, v.ownBlock = some j → base ≤ j ∧ j < w.heap.size := fun j hj => by
 obtain ⟨css, _, h2, _⟩ := h; exact h2.lt j hj
theorem own_val {w : World} {base : Nat} {e : TypeId} {size : Nat} {v : Value} {n : Nat} {xs : List Value} (h : w.ownsRow base e size v n xs) : ∃ ao cap, v = .slice ao n cap := by
 rcases h.2 with ⟨rfl, rfl⟩ | ⟨g, cap, cur, rfl, _⟩
 · exact ⟨_, _, rfl⟩
 · exact ⟨_, _, rfl⟩
theorem eFld : Elem Tryd.prog 43 58 6 64 (.agg #[.string .empty, .int .i64 0, .int .i64 0, .string .empty, .bool false, .int .i64 0]) := ⟨Tryd.underlying43, info_parts (by kernel_rfl), rfl, by decide⟩
theorem eNum : Elem Tryd.prog 44 3 1 8 (.int .i64 0) := ⟨Tryd.underlying44, info_parts (by kernel_rfl), rfl, by decide⟩
theorem eItm : Elem Tryd.prog 48 60 2 24 (.agg #[.string .empty, .int .i64 0]) := ⟨Tryd.underlying48, info_parts (by kernel_rfl), rfl, by decide⟩
theorem eMsg : Elem Tryd.prog 22 46 3 64 (.agg #[.string .empty, .slice none 0 0, .slice none 0 0]) := ⟨Tryd.underlying22, info_parts (by kernel_rfl), rfl, by decide⟩
theorem eEnu : Elem Tryd.prog 23 50 2 40 (.agg #[.string .empty, .slice none 0 0]) := ⟨Tryd.underlying23, info_parts (by kernel_rfl), rfl, by decide⟩
end Go.Proofs.YtbceapeoknngnaaDoor
