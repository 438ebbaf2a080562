/-
  A world that has drawn more is as the one before.
  How the parser lies: its text and its place; what a step of it comes to.
-/
import Derived.Test.YtbceapeoknngnaaDoorSy08
import Derived.Lib.BufferOwn
import Derived.WalkLawsBesides
namespace Go.Proofs.YtbceapeoknngnaaDoor
open Go.RowKit
theorem Up.drewN {a w : World} (h : Up a w) (n : Nat) : Up a (w.drewN n) := ⟨h.os, h.tape, h.output, h.size, h.block⟩
end Go.Proofs.YtbceapeoknngnaaDoor
set_option linter.unusedVariables false
namespace Go.Proofs.YtbceapeoknngnaaDoor
open Go.RowKit
def dr (s : ByteArray) (k : Nat) : List UInt8 := s.data.toList.drop k
theorem dr_len (s : ByteArray) (k : Nat) : (dr s k).length = s.size - k := by unfold dr; rw [List.length_drop]; rfl
theorem dr_cons {s : ByteArray} {k : Nat} (h : k < s.size) : dr s k = s[k] :: dr s (k + 1) := by
 unfold dr; rw [List.drop_eq_getElem_cons (by exact h)]; rfl
theorem dr_end {s : ByteArray} {k : Nat} (h : s.size ≤ k) : dr s k = [] := by
 unfold dr; exact List.drop_of_length_le h
theorem dr_drop (s : ByteArray) (k n : Nat) : (dr s k).drop n = dr s (k + n) := by unfold dr; rw [List.drop_drop]
theorem dr_extract (s : ByteArray) (a b : Nat) : (s.extract a b).data.toList = (dr s a).take (b - a) := by
 unfold dr; rw [ByteArray.data_extract, Array.toList_extract, List.extract_eq_take_drop]
theorem dr_at {s : ByteArray} {k i : Nat} (h : k + i < s.size) : (dr s k)[i]? = some s[k + i] := by
 unfold dr; rw [List.getElem?_drop, List.getElem?_eq_getElem (by exact h)]; rfl
def PW (g : Nat) (s : ByteArray) (k : Nat) (w : World) : Prop := w.heap[g]? = some (.cells #[.string s, .int .i64 k] 41 (0, 0))
theorem PW.c0 {g : Nat} {s : ByteArray} {k : Nat} {w : World} (h : PW g s k w) : w.cell? ⟨g, 0, none⟩ = some (.string s) := cell_of_row w g 0 _ _ _ h
theorem PW.c1 {g : Nat} {s : ByteArray} {k : Nat} {w : World} (h : PW g s k w) : w.cell? ⟨g, 1, none⟩ = some (.int .i64 k) := cell_of_row w g 1 _ _ _ h
theorem PW.fz {g : Nat} {s : ByteArray} {k : Nat} {w : World} (h : PW g s k w) (o : Nat) : w.frozen? ⟨g, o, none⟩ = false := frozen_of_row w g o _ _ h
theorem PW.lt {g : Nat} {s : ByteArray} {k : Nat} {w : World} (h : PW g s k w) : g < w.heap.size := lt_of_block h
theorem PW.set {g : Nat} {s : ByteArray} {k : Nat} {w : World} (h : PW g s k w) (n : Nat) : PW g s n (w.setCell ⟨g, 1, none⟩ (.int .i64 n)) := heap_setCell_same w g 1 _ _ _ h
theorem PW.set1 {g : Nat} {s : ByteArray} {k : Nat} {w : World} (h : PW g s k w) {i : Int} (n : Nat) (e : i = n) : PW g s n (w.setCell ⟨g, 1, none⟩ (.int .i64 i)) := by subst e; exact h.set n
theorem PW.up {g : Nat} {s : ByteArray} {k : Nat} {w w' : World} (h : PW g s k w) (hu : Up w w') : PW g s k w' := hu.blk h
theorem PW.alloc {g : Nat} {s : ByteArray} {k : Nat} {w : World} (h : PW g s k w) (o : Obj) : PW g s k (w.alloc o) := h.up ((Up.refl w).alloc o)
theorem PW.other {g : Nat} {s : ByteArray} {k : Nat} {w : World} (h : PW g s k w) {p : Addr} (hp : p.block ≠ g) (u : Value) : PW g s k (w.setCell p u) := (Below.heap_setCell w p u g (fun e => hp e.symm)).trans h
theorem PW.drewN {g : Nat} {s : ByteArray} {k : Nat} {w : World} (h : PW g s k w) (n : Nat) : PW g s k (w.drewN n) := h.up ((Up.refl w).drewN n)
def pwAt (g : Nat) (w : World) : Nat := match w.cell? ⟨g, 1, none⟩ with | some (.int _ k) => k.toNat | _ => 0
theorem PW.is {g : Nat} {s : ByteArray} {k : Nat} {w : World} (h : PW g s k w) : pwAt g w = k := by unfold pwAt; rw [h.c1]; simp
def Gr (g : Nat) (w w' : World) : Prop := w.grownBy w' (some g)
theorem Gr.refl (g : Nat) (w : World) : Gr g w w := World.grownBy.refl _ _
theorem Gr.trans {g : Nat} {a b c : World} (h : Gr g a b) (k : Gr g b c) : Gr g a c := grownBy_trans h k (fun j e => .inl e)
theorem Gr.up {g : Nat} {a b c : World} (h : Gr g a b) (k : Up b c) : Gr g a c := grownBy_trans h k.to_none (fun j e => by cases e)
theorem Gr.of_up {g : Nat} {b c : World} (k : Up b c) : Gr g b c := (Gr.refl g b).up k
theorem Gr.set {g : Nat} {a b : World} (h : Gr g a b) (i : Nat) (u : Value) : Gr g a (b.setCell ⟨g, i, none⟩ u) := h.trans (Lib.grownBy_setCell b g i u)
theorem Gr.setNew {g : Nat} {a b : World} (h : Gr g a b) {p : Addr} (hp : a.heap.size ≤ p.block) (u : Value) : Gr g a (b.setCell p u) :=
 ⟨h.os, h.tape, h.output, by have := h.size; simpa using this, fun k hk hne => (Below.heap_setCell b p u k (fun e => by have : k = p.block := e; omega)).trans (h.block k hk hne)⟩
theorem Gr.alloc {g : Nat} {a b : World} (h : Gr g a b) (o : Obj) : Gr g a (b.alloc o) := h.up ((Up.refl b).alloc o)
theorem Gr.drew {g : Nat} {a b : World} (h : Gr g a b) : Gr g a b.drew := ⟨h.os, h.tape, h.output, h.size, h.block⟩
theorem Gr.drewN {g : Nat} {a b : World} (h : Gr g a b) (n : Nat) : Gr g a (b.drewN n) := h.up ((Up.refl b).drewN n)
theorem Gr.blk {g : Nat} {w w' : World} (h : Gr g w w') {b : Nat} {o : Obj} (hb : w.heap[b]? = some o) (hne : b ≠ g) : w'.heap[b]? = some o :=
 (h.block b (lt_of_block hb) (fun e => hne (by injection e))).trans hb
theorem Gr.keep {g : Nat} {w w' : World} (h : Gr g w w') : Keep (fun b => b ≠ g) w (fun b => b ≠ g) w' := fun k hs hk => ⟨h.block k hk (fun e => hs (by injection e)), hs⟩
theorem Gr.upv {g : Nat} {a w w' : World} (h : Gr g w w') (hu : Up a w) (hg : a.heap.size ≤ g) : Up a w' := hu.grown h (fun k e => by injection e with e; omega)
def At (g : Nat) (s : ByteArray) (l : List UInt8) (w : World) : Prop := ∃ k : Nat, k ≤ s.size ∧ dr s k = l ∧ PW g s k w
theorem At.up {g : Nat} {s : ByteArray} {l : List UInt8} {w w' : World} (h : At g s l w) (hu : Up w w') : At g s l w' := let ⟨k, h1, h2, h3⟩ := h; ⟨k, h1, h2, h3.up hu⟩
def oopsE (er : Int) (k : Nat) : PanicEntry := { v := .iface 38 (.agg #[.int .i64 er, .int .i64 k]), recovered := false }
def PEnd {α : Type} (g : Nat) (s : ByteArray) (w : World) (r : PR α) (V : World → α → Value → Prop) (e : Ending) (w' : World) : Prop :=
 match r with
 | .ok a l => ∃ v, e = .returned v ∧ V w' a v ∧ At g s l w' ∧ Gr g w w'
 | .bad er l => e = .panicked [oopsE er (s.size - l.length)] ∧ Gr g w w'
theorem PEnd.ok {α : Type} {g : Nat} {s : ByteArray} {w w' : World} {r : PR α} {V : World → α → Value → Prop} {e : Ending} {a : α} {l : List UInt8} (h : PEnd g s w r V e w') (hr : r = .ok a l) : ∃ v, e = .returned v ∧ V w' a v ∧ At g s l w' ∧ Gr g w w' := by subst hr; exact h
theorem PEnd.bad {α : Type} {g : Nat} {s : ByteArray} {w w' : World} {r : PR α} {V : World → α → Value → Prop} {e : Ending} {er : Int} {l : List UInt8} (h : PEnd g s w r V e w') (hr : r = .bad er l) : e = .panicked [oopsE er (s.size - l.length)] ∧ Gr g w w' := by subst hr; exact h
theorem PEnd.of_ok {α : Type} {g : Nat} {s : ByteArray} {w w' : World} {r : PR α} {V : World → α → Value → Prop} {a : α} {l : List UInt8} (hr : r = .ok a l) {v : Value} (hv : V w' a v) (ha : At g s l w') (hg : Gr g w w') : PEnd g s w r V (.returned v) w' := by subst hr; exact ⟨v, rfl, hv, ha, hg⟩
theorem PEnd.of_bad {α : Type} {g : Nat} {s : ByteArray} {w w' : World} {r : PR α} {V : World → α → Value → Prop} {er : Int} {l : List UInt8} {k : Nat} (hr : r = .bad er l) (hk : s.size - l.length = k) (hg : Gr g w w') : PEnd g s w r V (.panicked [oopsE er k]) w' := by subst hr; subst hk; exact ⟨rfl, hg⟩
def slashB (s : ByteArray) : Bool := decide (2 ≤ s.size) && ((s.extract 0 2).toList == [47, 47])
theorem slash_dr {s : ByteArray} {k : Nat} (h : k < s.size) : slashB (s.extract k s.size) = decide (s[k] = 47 ∧ (dr s (k + 1)).head? = some 47) := by
 (have hx : (s.extract k s.size).data.toList = dr s k := by rw [dr_extract, List.take_of_length_le (by rw [dr_len]; omega)]); (have hz : (s.extract k s.size).size = s.size - k := by simp [ByteArray.size_extract]); unfold slashB; rw [hz]
 have he : ((s.extract k s.size).extract 0 2).toList = (dr s k).take 2 := by
   rw [ByteArray.toList_eq, ByteArray.data_extract, Array.toList_extract, List.extract_eq_take_drop, List.drop_zero, hx]
 rw [Bool.eq_iff_iff]; simp only [Bool.and_eq_true, decide_eq_true_eq, beq_iff_eq]; rw [he, dr_cons h]; have hl := dr_len s (k + 1)
 cases hc : dr s (k + 1) with
 | nil => simp
 | cons c l =>
   rw [hc] at hl; simp only [List.length_cons] at hl; simp only [List.take_succ_cons, List.take_zero, List.cons.injEq, and_true, List.head?_cons, Option.some.injEq]; constructor
   · exact fun h => h.2
   · exact fun h' => ⟨by omega, h'⟩
end Go.Proofs.YtbceapeoknngnaaDoor
