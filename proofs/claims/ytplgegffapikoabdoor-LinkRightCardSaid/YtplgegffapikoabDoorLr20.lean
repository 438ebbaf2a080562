/-
  Rows of the call's own: more about them.
-/
import Derived.Test.YtplgegffapikoabDoorLr06
import Derived.Test.YtplgegffapikoabDoorLr07
set_option linter.unusedVariables false
namespace Go.Proofs.YtplgegffapikoabDoor
open Go.RowKit
def FilSz (f : Fil) : Prop := f.msgs.length * 64 ≤ 140737488355328 ∧ f.enums.length * 40 ≤ 140737488355328 ∧ (∀ m ∈ f.msgs, m.fields.length * 64 ≤ 140737488355328 ∧ m.barred.length * 8 ≤ 140737488355328) ∧ ∀ e ∈ f.enums, e.items.length * 24 ≤ 140737488355328
abbrev No : Nat → Prop := fun _ => False
theorem filV_nil (w : World) : FilV All w (.agg #[.slice none 0 0, .slice none 0 0]) ⟨[], []⟩ :=
  ⟨_, _, rfl, ⟨none, 0, rfl, by simp, by unfold maxLen; omega, fun _ => rfl, fun i hi => by simp at hi⟩, ⟨none, 0, rfl, by simp, by unfold maxLen; omega, fun _ => rfl, fun i hi => by simp at hi⟩⟩
/-- What is read lies in blocks that are there. -/
theorem RdS.lt {α : Type} {D : Lay α} (hD : Stable D) {size : Nat} {w : World} {v : Value} {l : List α} (h : RdS D size All w v l) : RdS D size (Lt w) w v l := h.keep hD (Keep.lt (S := All))

theorem FilV.setCell {S : Nat → Prop} {w : World} {v : Value} {f : Fil} (h : FilV S w v f) {p : Addr} (hp : ¬ S p.block) (u : Value) : FilV S (w.setCell p u) v f := h.keep (Keep.setCell hp u)
theorem FilV.alloc {S : Nat → Prop} {w : World} {v : Value} {f : Fil} (h : FilV S w v f) (o : Obj) : FilV S (w.alloc o) v f := h.keep (Keep.alloc o)
theorem FilV.all {S : Nat → Prop} {w : World} {v : Value} {f : Fil} (h : FilV S w v f) : FilV All w v f := h.keep (Keep.weak (fun _ _ => trivial))
theorem ownsRow_set {w : World} {base : Nat} {e : TypeId} {size g n cap : Nat} {xs : List Value} (h : w.ownsRow base e size (.slice (some ⟨g, 0, none⟩) n cap) n xs) (i : Nat) (u : Value) : (w.setCell ⟨g, i, none⟩ u).ownsRow base e size (.slice (some ⟨g, 0, none⟩) n cap) n (xs.set i u) := by
  refine ⟨by rw [List.length_set]; exact h.1, ?_⟩
  rcases h.2 with ⟨h0, _⟩ | ⟨g', cap', cur, hv, hb, hg, hn, hm, hs, ht⟩
  · cases h0
  · simp only [Value.slice.injEq, Option.some.injEq, Addr.mk.injEq, and_true, true_and] at hv
    obtain ⟨rfl, rfl⟩ := hv
    refine .inr ⟨g, cap, cur.setIfInBounds i u, rfl, hb, heap_setCell_same w g i cur e u hg, hn, hm, by simpa using hs, ?_⟩
    rw [Array.toList_setIfInBounds, List.take_set, ht]
theorem flatten_set : ∀ (css : List (List Value)) (size i j : Nat) (u : Value) (cs : List Value), (∀ c ∈ css, c.length = size) → css[i]? = some cs → j < size → css.flatten.set (i * size + j) u = (css.set i (cs.set j u)).flatten
  | [], _, _, _, _, _, _, h, _ => by simp at h
  | c :: css, size, 0, j, u, cs, hs, h, hj => by
    simp at h
    subst h
    have hc : c.length = size := hs c (by simp)
    rw [List.flatten_cons, List.set_append_left _ _ (by omega)]
    simp
  | c :: css, size, i + 1, j, u, cs, hs, h, hj => by
    have hc : c.length = size := hs c (by simp)
    rw [List.flatten_cons, List.set_append_right _ _ (by rw [hc, Nat.add_mul]; omega), hc, show (i + 1) * size + j - size = i * size + j by rw [Nat.add_mul]; omega,
      flatten_set css size i j u cs (fun c hc => hs c (by simp [hc])) (by simpa using h) hj]
    simp
theorem OwnS.pure {α : Type} {D : Lay α} (hD : ∀ S S' w w' a cs, D S w a cs → D S' w' a cs) {base base' : Nat} {e : TypeId} {size : Nat} {S S' : Nat → Prop} {w : World} {v : Value} {l : List α} (h : OwnS D base e size S w v l) (hb : base' ≤ base) : OwnS D base' e size S' w v l := by
  obtain ⟨css, h1, h2, h3⟩ := h
  refine ⟨css, h1, ⟨h2.1, h2.2.imp id (fun ⟨g, cap, cur, hv, hg, r⟩ => ⟨g, cap, cur, hv, Nat.le_trans hb hg, r⟩)⟩, fun i hi => ?_⟩
  obtain ⟨cs, h4, h5, h6⟩ := h3 i hi
  exact ⟨cs, h4, h5, hD _ _ _ _ _ _ h6⟩
theorem pure_fld : ∀ S S' w w' a cs, DFld S w a cs → DFld S' w' a cs := fun _ _ _ _ _ _ h => h
theorem pure_int : ∀ S S' w w' a cs, DInt S w a cs → DInt S' w' a cs := fun _ _ _ _ _ _ h => h
theorem pure_itm : ∀ S S' w w' a cs, DItm S w a cs → DItm S' w' a cs := fun _ _ _ _ _ _ h => h
theorem own_some {w : World} {base : Nat} {e : TypeId} {size : Nat} {a : Option Addr} {n c n' : Nat} {xs : List Value} (h : w.ownsRow base e size (.slice a n c) n' xs) (hn : 0 < n') : ∃ g, a = some ⟨g, 0, none⟩ ∧ base ≤ g ∧ g < w.heap.size ∧ ∀ o, w.frozen? ⟨g, o, none⟩ = false := by
  rcases h.2 with ⟨_, h0⟩ | ⟨g, cap, cur, hv, hb, hg, _⟩
  · omega
  · simp only [Value.slice.injEq] at hv
    exact ⟨g, hv.1, hb, lt_of_block hg, fun o => frozen_of_row w g o _ _ hg⟩
theorem OwnS.lo {α : Type} {D : Lay α} {base : Nat} {e : TypeId} {size : Nat} {S : Nat → Prop} {w : World} {v : Value} {l : List α} (h : OwnS D base e size S w v l) : ∀ j, v.ownBlock = some j → base ≤ j ∧ j < w.heap.size := fun j hj => by
  obtain ⟨css, _, h2, _⟩ := h
  exact h2.lt j hj
theorem own_val {w : World} {base : Nat} {e : TypeId} {size : Nat} {v : Value} {n : Nat} {xs : List Value} (h : w.ownsRow base e size v n xs) : ∃ ao cap, v = .slice ao n cap := by
  rcases h.2 with ⟨rfl, rfl⟩ | ⟨g, cap, cur, rfl, _⟩
  · exact ⟨_, _, rfl⟩
  · exact ⟨_, _, rfl⟩

theorem ones_of {α : Type} {D : Lay α} {S : Nat → Prop} {w : World} {l : List α} {size : Nat} {css : List (List Value)} (h1 : ∀ S w a cs, D S w a cs → ∀ u ∈ cs, u.oneCell' = true) (hl : css.length = l.length) (hel : ∀ i, (h : i < l.length) → ∃ cs, css[i]? = some cs ∧ cs.length = size ∧ D S w l[i] cs) : ∀ u ∈ css.flatten, u.oneCell' = true := by
  intro u hu
  obtain ⟨cs, hcs, hu⟩ := List.mem_flatten.1 hu
  obtain ⟨i, hi, rfl⟩ := List.getElem_of_mem hcs
  obtain ⟨cs, h2, _, h3⟩ := hel i (by omega)
  rw [List.getElem?_eq_getElem hi] at h2
  rw [Option.some.inj h2] at hu
  exact h1 _ _ _ _ h3 u hu
end Go.Proofs.YtplgegffapikoabDoor
