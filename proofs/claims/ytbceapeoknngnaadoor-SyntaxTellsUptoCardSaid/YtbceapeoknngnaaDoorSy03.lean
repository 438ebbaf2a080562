/-
  More of the plain words.
  Slices that lie in a block that is known whole.
-/
import Derived.Test.YtbceapeoknngnaaDoorSy02
import Derived.Laws.BytesArg
namespace Go.Proofs.YtbceapeoknngnaaDoor
open Go.RowKit
abbrev bs (l : List UInt8) : ByteArray := ⟨l.toArray⟩
def Lt (w : World) (k : Nat) : Prop := k < w.heap.size
theorem Keep.lt {S : Nat → Prop} {w : World} : Keep S w (Lt w) w := fun _ _ h => ⟨rfl, h⟩
theorem oc {cs : Array Value} (h : cs.toList.all (·.oneCell') = true) : ∀ u ∈ cs.toList, u.oneCell' = true := List.all_eq_true.mp h
section
variable {P : Program} {t e : TypeId} {size bytes : Nat} {z : Value} (E : Elem P t e size bytes z) (w : World)
include E
theorem wpList_app1 {cs : Array Value} {ops : Array Oper} {rest : List Oper} {o : Oper} {a : Act} {Q : Exit → Act → World → Prop} (hgd : o.guard = none) (s x : Operand)
   (ho : o.op = .call { callee := .builtin .append, args := #[s, x], argTypes := #[t, t] })
   (base : Nat) (v : Value) (n : Nat) (xs : List Value) (hs : a.eval s = v) (hown : w.ownsRow base e size v n xs) (g : Nat) (hx : a.eval x = .slice (some ⟨g, 0, none⟩) 1 1) (hg : g = w.heap.size) (hl : cs.size = size) (h1 : ∀ u ∈ cs.toList, u.oneCell' = true)
   (hbytes : (n + 1) * bytes ≤ 140737488355328) (h63 : n + 1 ≤ maxLen) (hbase : base ≤ w.heap.size)
   (h : ∀ v' w', w'.ownsRow base e size v' (n + 1) (xs ++ cs.toList) → Evo w w' v v' → wpList P ops Q rest (a.put o.dst v') w') : wpList P ops Q (o :: rest) a (w.alloc (.cells cs e)) := by
 subst hg; exact wpList_app_one E w hgd s x ho base v n xs hs hown hx hl h1 hbytes h63 hbase h
theorem step_app1 {cs : Array Value} {ops : Array Oper} {o : Oper} {a : Act} {K : Act → World → Prop} {Q : Exit → Act → World → Prop} {F : Prop} (hgd : o.guard = none) (s x : Operand)
   (ho : o.op = .call { callee := .builtin .append, args := #[s, x], argTypes := #[t, t] })
   (base : Nat) (v : Value) (n : Nat) (xs : List Value) (hs : a.eval s = v) (hown : w.ownsRow base e size v n xs) (g : Nat) (hx : a.eval x = .slice (some ⟨g, 0, none⟩) 1 1) (hg : g = w.heap.size) (hl : cs.size = size) (h1 : ∀ u ∈ cs.toList, u.oneCell' = true)
   (hbytes : (n + 1) * bytes ≤ 140737488355328) (h63 : n + 1 ≤ maxLen) (hbase : base ≤ w.heap.size)
   (h : ∀ v' w', w'.ownsRow base e size v' (n + 1) (xs ++ cs.toList) → Evo w w' v v' → K (a.put o.dst v') w') : if Region.wanted o (yielded ops a.tmps) = true then Oper.wp P o a (w.alloc (.cells cs e)) K Q else F := by
 subst hg; exact step_app_one E w hgd s x ho base v n xs hs hown hx hl h1 hbytes h63 hbase h
end
end Go.Proofs.YtbceapeoknngnaaDoor
namespace Go.Proofs.YtbceapeoknngnaaDoor
open Go.RowKit
theorem rdS_of_block {α : Type} {D : Lay α} {size : Nat} {S : Nat → Prop} {w : World} {g : Nat} {e : TypeId} {f : Nat × Nat} {cells : Array Value} (l : List α) (css : List (List Value)) (hb : w.heap[g]? = some (.cells cells e f)) (hcs : cells = css.flatten.toArray) (hS : S g) (hl : css.length = l.length)
   (hel : ∀ i, (h : i < l.length) → ∃ cs, css[i]? = some cs ∧ cs.length = size ∧ D S w l[i] cs) {n cap : Nat} (hn : n = l.length) (hc : n ≤ cap) (hm : cap ≤ maxLen) : RdS D size S w (.slice (some ⟨g, 0, none⟩) n cap) l := by
 subst hcs; subst hn
 have hall : ∀ c ∈ css, c.length = size := fun c hc => by
   obtain ⟨i, hi, rfl⟩ := List.getElem_of_mem hc; obtain ⟨cs, h4, h5, _⟩ := hel i (by omega); rw [List.getElem?_eq_getElem hi] at h4; rw [Option.some.inj h4]; exact h5
 refine ⟨some ⟨g, 0, none⟩, cap, rfl, hc, hm, (fun e => nomatch e), fun i hi => ?_⟩; obtain ⟨cs, h4, h5, h6⟩ := hel i hi; refine ⟨g, 0, cs, rfl, hS, lt_of_block hb, h5, fun j u hu => ?_, h6⟩; have := getElem?_flatten_block css size i j u cs hall h4 hu; rw [show 0 + i * size + j = i * size + j by omega, cell_of_row w g _ _ e f hb]; simpa using this
theorem blk_new (w : World) (o : Obj) {g : Nat} (h : g = w.heap.size) : (w.alloc o).heap[g]? = some o := by subst h; exact heap_alloc_new w o
theorem blk_old {w : World} (o : Obj) {g : Nat} {o' : Obj} (h : w.heap[g]? = some o') : (w.alloc o).heap[g]? = some o' := (Below.heap_alloc w o g (lt_of_block h)).trans h
end Go.Proofs.YtbceapeoknngnaaDoor
