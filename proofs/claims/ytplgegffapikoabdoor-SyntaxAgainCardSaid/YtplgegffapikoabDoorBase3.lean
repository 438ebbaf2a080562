/-
  Slices that lie in a block that is known whole.
-/
import Derived.Test.YtplgegffapikoabDoorBase2
namespace Go.Proofs.YtplgegffapikoabDoor
open Go.RowKit
theorem rdS_of_block {α : Type} {D : Lay α} {size : Nat} {S : Nat → Prop} {w : World} {g : Nat} {e : TypeId} {f : Nat × Nat} {cells : Array Value} (l : List α) (css : List (List Value)) (hb : w.heap[g]? = some (.cells cells e f)) (hcs : cells = css.flatten.toArray) (hS : S g) (hl : css.length = l.length)
    (hel : ∀ i, (h : i < l.length) → ∃ cs, css[i]? = some cs ∧ cs.length = size ∧ D S w l[i] cs) {n cap : Nat} (hn : n = l.length) (hc : n ≤ cap) (hm : cap ≤ maxLen) : RdS D size S w (.slice (some ⟨g, 0, none⟩) n cap) l := by
  subst hcs; subst hn
  have hall : ∀ c ∈ css, c.length = size := fun c hc => by
    obtain ⟨i, hi, rfl⟩ := List.getElem_of_mem hc
    obtain ⟨cs, h4, h5, _⟩ := hel i (by omega)
    rw [List.getElem?_eq_getElem hi] at h4
    rw [Option.some.inj h4]; exact h5
  refine ⟨some ⟨g, 0, none⟩, cap, rfl, hc, hm, (fun e => nomatch e), fun i hi => ?_⟩
  obtain ⟨cs, h4, h5, h6⟩ := hel i hi
  refine ⟨g, 0, cs, rfl, hS, lt_of_block hb, h5, fun j u hu => ?_, h6⟩
  have := getElem?_flatten_block css size i j u cs hall h4 hu
  rw [show 0 + i * size + j = i * size + j by omega, cell_of_row w g _ _ e f hb]
  simpa using this
theorem rdB_of_block {S : Nat → Prop} {w : World} {g : Nat} {e : TypeId} {f : Nat × Nat} {cells : Array Value} (l : List UInt8) (hb : w.heap[g]? = some (.cells cells e f)) (hcs : cells = (B8 l).toArray) (hS : S g) {n cap : Nat} (hn : n = l.length) (hc : n ≤ cap) (hm : cap ≤ maxLen) : RdB S w (.slice (some ⟨g, 0, none⟩) n cap) l := by
  refine rdS_of_block l (l.map fun c => [.int .u8 (c.toNat : Int)]) hb ?_ hS (by simp) (fun i hi => ⟨[.int .u8 (l[i].toNat : Int)], by simp [hi], rfl, rfl⟩) hn hc hm
  rw [hcs]
  congr 1
  unfold B8
  clear hn hcs
  induction l with
  | nil => rfl
  | cons c l ih => simp only [List.map_cons, List.flatten_cons, List.cons_append, List.nil_append]; rw [← ih]
/-- the i-th block from here -/
theorem blk_new (w : World) (o : Obj) {g : Nat} (h : g = w.heap.size) : (w.alloc o).heap[g]? = some o := by subst h; exact heap_alloc_new w o
theorem blk_old {w : World} (o : Obj) {g : Nat} {o' : Obj} (h : w.heap[g]? = some o') : (w.alloc o).heap[g]? = some o' := (Below.heap_alloc w o g (lt_of_block h)).trans h
end Go.Proofs.YtplgegffapikoabDoor
