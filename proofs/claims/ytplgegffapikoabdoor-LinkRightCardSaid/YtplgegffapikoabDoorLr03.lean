/-
  More of the plain words.
  Slices that lie in a block that is known whole.
-/
import Derived.Test.YtplgegffapikoabDoorLr02
import Derived.Laws.BytesArg
namespace Go.Proofs.YtplgegffapikoabDoor
open Go.RowKit
/-- The string of bytes. -/
abbrev bs (l : List UInt8) : ByteArray := ⟨l.toArray⟩
theorem bs_inj {l m : List UInt8} (h : bs l = bs m) : l = m := by
  have := congrArg (fun x : ByteArray => x.data.toList) h
  simpa [bs] using this
theorem leq_true {l m : List UInt8} (h : l = m) : (l == m) = true := by simp [h]
theorem leq_false {l m : List UInt8} (h : l ≠ m) : (l == m) = false := by rw [beq_eq_false_iff_ne]; exact h
/-- 'string(b)' -/
theorem run_conv {P : Program} {S : Nat → Prop} {w : World} {v : Value} {l : List UInt8} (h : RdB S w v l) (src e dst : TypeId) (hs : P.underlying src = some (.slice e)) (he : P.underlying e = some (.int .u8)) (hd : P.underlying dst = some .string) :
    (convert src dst v).run P w = .ok (.string ⟨l.toArray⟩) w := by
  obtain ⟨ao, cap, rfl, hc1, hc2⟩ := h.val
  cases ao with
  | none =>
    have h0 := (RdB.news h).2.1 rfl
    have : l = [] := List.eq_nil_of_length_eq_zero h0.1
    subst this
    exact run_convert_bytes_nil w src e hs he _ _ dst hd
  | some ad =>
    by_cases hl : l = []
    · subst hl
      rw [run_convert_bytes_string w src dst e _ _ _ hs he hd, run_bytesToString w ad _ cap [] (by simp [loadCells, loadCellsFrom])]
      rfl
    · have hp : 0 < l.length := List.length_pos_iff.2 hl
      obtain ⟨b, o, ha, _⟩ := RdB.cell h hp
      simp only [Option.some.injEq] at ha
      subst ha
      rw [run_convert_bytes_arg w src e hs he b o l.length cap (l.map fun c => (c.toNat : Int)) (by simp) (fun i hi => by
        obtain ⟨b', o', ha', hc⟩ := RdB.cell h hi
        simp only [Option.some.injEq, Addr.mk.injEq, and_true] at ha'
        obtain ⟨rfl, rfl⟩ := ha'
        rw [hc]
        simp [List.getD, List.getElem?_eq_getElem hi]) dst hd]
      congr 2
      unfold strOfNums
      congr 1
      congr 1
      rw [List.map_map]
      conv => rhs; rw [← List.map_id l]
      apply List.map_congr_left
      intro c _
      simp
/-- The blocks that were there. -/
def Lt (w : World) (k : Nat) : Prop := k < w.heap.size
theorem Keep.lt {S : Nat → Prop} {w : World} : Keep S w (Lt w) w := fun _ _ h => ⟨rfl, h⟩
/-- A record of a list, where the walk looks. -/
theorem rdRec_cell {S : Nat → Prop} {w : World} {ao : Option Addr} {n cap : Nat} {l : List Rec} (h : RdS DRec 4 S w (.slice ao n cap) l) {i : Nat} (hi : i < l.length) : ∃ b o a3 c3, ao = some ⟨b, o, none⟩ ∧ RdB S w (.slice a3 l[i].bytes.length c3) l[i].bytes ∧ l[i].bits < 2 ^ 64 ∧
    w.cell? ⟨b, o + i * 4, none⟩ = some (.int .i64 l[i].number) ∧ w.cell? ⟨b, o + i * 4 + 1, none⟩ = some (.int .i64 l[i].how) ∧ w.cell? ⟨b, o + i * 4 + 2, none⟩ = some (.int .u64 (l[i].bits : Int)) ∧ w.cell? ⟨b, o + i * 4 + 3, none⟩ = some (.slice a3 l[i].bytes.length c3) := by
  obtain ⟨ao', cap', hv, hc, hm, hn, hf⟩ := h
  obtain ⟨b, o, cs, ha, hS, hb, hl, hcs, vb, rfl, hrb, h64⟩ := hf i hi
  simp only [Value.slice.injEq] at hv
  obtain ⟨rfl, rfl, rfl⟩ := hv
  obtain ⟨a3, c3, rfl, _, _⟩ := hrb.val
  exact ⟨b, o, a3, c3, ha, hrb, h64, by simpa using hcs 0 _ rfl, by simpa using hcs 1 _ rfl, by simpa using hcs 2 _ rfl, by simpa using hcs 3 _ rfl⟩
/-- The bytes of records. -/
def bytesF : Nat → List UInt8 → List Rec → List UInt8 × Int × Nat
  | _, acc, [] => (acc, 0, 0)
  | k, acc, r :: rest => if wrongRec r ≠ 0 then ([], wrongRec r, k) else if 4000 < (acc ++ oneB r).length then ([], 4, k) else bytesF (k + 1) (acc ++ oneB r) rest
abbrev bytesP (l : List Rec) : List UInt8 × Int × Nat := bytesF 0 [] l
theorem parseG_err : ∀ (f : Nat) (l : List UInt8), (parseG f l).2.1 ≠ 0 → (parseG f l).1 = []
  | 0, _, h => by simp [parseG] at h
  | f + 1, l, h => by
    rw [parseG] at h ⊢
    by_cases h1 : l = []
    · rw [if_pos h1]
    · rw [if_neg h1] at h ⊢
      by_cases h2 : (oneP l).1 ≠ 0
      · rw [if_pos h2]
      · rw [if_neg h2] at h ⊢
        simp only at h ⊢
        by_cases h3 : (parseG f (l.drop (oneP l).2.2)).2.1 ≠ 0
        · rw [if_pos h3]
        · rw [if_neg h3] at h; simp at h
theorem parseG_ok : ∀ (f : Nat) (l : List UInt8), (parseG f l).2.1 = 0 → (parseG f l).2.2 = 0
  | 0, _, h => by simp [parseG]
  | f + 1, l, h => by
    rw [parseG] at h ⊢
    by_cases h1 : l = []
    · rw [if_pos h1]
    · rw [if_neg h1] at h ⊢
      by_cases h2 : (oneP l).1 ≠ 0
      · rw [if_pos h2]
      · rw [if_neg h2] at h ⊢
        simp only at h ⊢
        by_cases h3 : (parseG f (l.drop (oneP l).2.2)).2.1 ≠ 0
        · rw [if_pos h3] at h; exact absurd h h3
        · rw [if_neg h3]
theorem parseC_start {f : Nat} (l : List UInt8) : parseC 0 [] (parseG f l) = parseG f l := by
  by_cases h : (parseG f l).2.1 = 0
  · have h2 := parseG_ok f l h
    unfold parseC
    rw [if_neg (by simpa using h)]
    generalize parseG f l = p at *
    obtain ⟨a, b, c⟩ := p
    simp_all
  · have h2 := parseG_err f l h
    unfold parseC
    rw [if_pos h]
    generalize parseG f l = p at *
    obtain ⟨a, b, c⟩ := p
    simp_all
theorem oc {cs : Array Value} (h : cs.toList.all (·.oneCell') = true) : ∀ u ∈ cs.toList, u.oneCell' = true := List.all_eq_true.mp h
section
variable {P : Program} {t e : TypeId} {size bytes : Nat} {z : Value} (E : Elem P t e size bytes z) (w : World)
include E
theorem wpList_app1 {cs : Array Value} {ops : Array Oper} {rest : List Oper} {o : Oper} {a : Act} {Q : Exit → Act → World → Prop} (hgd : o.guard = none) (s x : Operand)
    (ho : o.op = .call { callee := .builtin .append, args := #[s, x], argTypes := #[t, t] })
    (base : Nat) (v : Value) (n : Nat) (xs : List Value) (hs : a.eval s = v) (hown : w.ownsRow base e size v n xs) (g : Nat) (hx : a.eval x = .slice (some ⟨g, 0, none⟩) 1 1) (hg : g = w.heap.size) (hl : cs.size = size) (h1 : ∀ u ∈ cs.toList, u.oneCell' = true)
    (hbytes : (n + 1) * bytes ≤ 140737488355328) (h63 : n + 1 ≤ maxLen) (hbase : base ≤ w.heap.size)
    (h : ∀ v' w', w'.ownsRow base e size v' (n + 1) (xs ++ cs.toList) → Evo w w' v v' → wpList P ops Q rest (a.put o.dst v') w') : wpList P ops Q (o :: rest) a (w.alloc (.cells cs e)) := by
  subst hg
  exact wpList_app_one E w hgd s x ho base v n xs hs hown hx hl h1 hbytes h63 hbase h
theorem step_app1 {cs : Array Value} {ops : Array Oper} {o : Oper} {a : Act} {K : Act → World → Prop} {Q : Exit → Act → World → Prop} {F : Prop} (hgd : o.guard = none) (s x : Operand)
    (ho : o.op = .call { callee := .builtin .append, args := #[s, x], argTypes := #[t, t] })
    (base : Nat) (v : Value) (n : Nat) (xs : List Value) (hs : a.eval s = v) (hown : w.ownsRow base e size v n xs) (g : Nat) (hx : a.eval x = .slice (some ⟨g, 0, none⟩) 1 1) (hg : g = w.heap.size) (hl : cs.size = size) (h1 : ∀ u ∈ cs.toList, u.oneCell' = true)
    (hbytes : (n + 1) * bytes ≤ 140737488355328) (h63 : n + 1 ≤ maxLen) (hbase : base ≤ w.heap.size)
    (h : ∀ v' w', w'.ownsRow base e size v' (n + 1) (xs ++ cs.toList) → Evo w w' v v' → K (a.put o.dst v') w') : if Region.wanted o (yielded ops a.tmps) = true then Oper.wp P o a (w.alloc (.cells cs e)) K Q else F := by
  subst hg
  exact step_app_one E w hgd s x ho base v n xs hs hown hx hl h1 hbytes h63 hbase h
end
end Go.Proofs.YtplgegffapikoabDoor
namespace Go.Proofs.YtplgegffapikoabDoor
open Go.RowKit
theorem rdS_of_block {α : Type} {D : Lay α} {size : Nat} {S : Nat → Prop} {w : World} {g : Nat} {e : TypeId} {f : Nat × Nat} {cells : Array Value} (l : List α) (css : List (List Value)) (hb : w.heap[g]? = some (.cells cells e f)) (hcs : cells = css.flatten.toArray) (hS : S g) (hl : css.length = l.length)
    (hel : ∀ i, (h : i < l.length) → ∃ cs, css[i]? = some cs ∧ cs.length = size ∧ D S w l[i] cs) {n cap : Nat} (hn : n = l.length) (hc : n ≤ cap) (hm : cap ≤ maxLen) : RdS D size S w (.slice (some ⟨g, 0, none⟩) n cap) l := by
  subst hcs; subst hn
  have hall : ∀ c ∈ css, c.length = size := fun c hc => by
    obtain ⟨i, hi, rfl⟩ := List.getElem_of_mem hc
    obtain ⟨cs, h4, h5, _⟩ := hel i (by omega)
    rw [List.getElem?_eq_getElem hi] at h4
    rw [Option.some.inj h4]; exact h5
  refine ⟨some ⟨g, 0, none⟩, cap, rfl, hc, hm, (fun e => nomatch e), fun i hi => ?_⟩
  obtain ⟨cs, h4, h5, h6⟩ := hel i hi
  refine ⟨g, 0, cs, rfl, hS, lt_of_block hb, h5, fun j u hu => ?_, h6⟩
  have := getElem?_flatten_block css size i j u cs hall h4 hu
  rw [show 0 + i * size + j = i * size + j by omega, cell_of_row w g _ _ e f hb]
  simpa using this
theorem rdB_of_block {S : Nat → Prop} {w : World} {g : Nat} {e : TypeId} {f : Nat × Nat} {cells : Array Value} (l : List UInt8) (hb : w.heap[g]? = some (.cells cells e f)) (hcs : cells = (B8 l).toArray) (hS : S g) {n cap : Nat} (hn : n = l.length) (hc : n ≤ cap) (hm : cap ≤ maxLen) : RdB S w (.slice (some ⟨g, 0, none⟩) n cap) l := by
  refine rdS_of_block l (l.map fun c => [.int .u8 (c.toNat : Int)]) hb ?_ hS (by simp) (fun i hi => ⟨[.int .u8 (l[i].toNat : Int)], by simp [hi], rfl, rfl⟩) hn hc hm
  rw [hcs]
  congr 1
  unfold B8
  clear hn hcs
  induction l with
  | nil => rfl
  | cons c l ih => simp only [List.map_cons, List.flatten_cons, List.cons_append, List.nil_append]; rw [← ih]
/-- the i-th block from here -/
theorem blk_new (w : World) (o : Obj) {g : Nat} (h : g = w.heap.size) : (w.alloc o).heap[g]? = some o := by subst h; exact heap_alloc_new w o
theorem blk_old {w : World} (o : Obj) {g : Nat} {o' : Obj} (h : w.heap[g]? = some o') : (w.alloc o).heap[g]? = some o' := (Below.heap_alloc w o g (lt_of_block h)).trans h
end Go.Proofs.YtplgegffapikoabDoor
