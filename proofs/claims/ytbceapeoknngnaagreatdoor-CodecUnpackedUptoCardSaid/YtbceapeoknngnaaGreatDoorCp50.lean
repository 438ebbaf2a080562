/-
  Bodies, as they come in: what a reading of so little bulk gives.
  Bodies, as they come in: their weight is bounded by their bulk.
-/
import Derived.Test.YtbceapeoknngnaaGreatDoorRows
import Derived.Test.YtbceapeoknngnaaGreatDoorCp49
import Derived.Test.YtbceapeoknngnaaGreatDoorCp03
import Derived.Test.YtbceapeoknngnaaGreatDoorCp14
import Derived.Test.YtbceapeoknngnaaGreatDoorCp45
import Derived.Test.YtbceapeoknngnaaGreatDoorCp46
import Derived.Test.YtbceapeoknngnaaGreatDoorCp47
import Derived.Test.YtbceapeoknngnaaGreatDoorCp06
import Derived.Test.YtbceapeoknngnaaGreatDoorCp48
import Derived.Test.YtbceapeoknngnaaGreatDoorCp12
import Derived.Test.YtbceapeoknngnaaGreatDoorCp30
set_option linter.unusedVariables false
namespace Go.Proofs.YtbceapeoknngnaaGreatDoor
open Go.RowKit
theorem bulk_one {H : Type} (d : DataW H) : 1 ≤ Rows.uptoBulk d := by
  cases d with
  | lit l => cases l <;> simp [Rows.uptoBulk]
  | nil => simp [Rows.uptoBulk]
  | ptr d => simp [Rows.uptoBulk]
  | slice elems spare => simp [Rows.uptoBulk]
  | agg parts => simp [Rows.uptoBulk]
  | iface t d => simp [Rows.uptoBulk]
  | map entries => simp [Rows.uptoBulk]
  | held h => simp [Rows.uptoBulk]
theorem bulk_part {H : Type} {d : DataW H} {l : List (DataW H)} (h : d ∈ l) : Rows.uptoBulk d ≤ Rows.uptoBulkAll l := by
  induction l with
  | nil => cases h
  | cons x r ih =>
    simp only [Rows.uptoBulkAll]
    cases List.mem_cons.1 h with
    | inl e => subst e; omega
    | inr e => have := ih e; omega
theorem bulk_length {H : Type} (l : List (DataW H)) : l.length ≤ Rows.uptoBulkAll l := by
  induction l with
  | nil => simp [Rows.uptoBulkAll]
  | cons x r ih => have := bulk_one x; simp only [Rows.uptoBulkAll, List.length_cons]; omega
def ReadsU {α : Type} (M : Nat) (P : Program) (t : TypeId) (D : Lay α) : Prop :=
  ∀ {H : Type} (enc : TypeId × Value → H) (w : World) (base : Nat) (spare : Nat → Bool) (held : Bool) (fuel : Nat) (cs : List Value) (x : DataW H × List MemPlace), DataW.trod enc P w base spare held fuel t cs = some x → Rows.uptoBulk x.1 ≤ M → ∃ a : α, D All w a cs
theorem Reads.u {α : Type} {M : Nat} {P : Program} {t : TypeId} {D : Lay α} (h : Reads P t D) : ReadsU M P t D := fun enc w base spare held fuel cs x hx _ => h enc w base spare held fuel cs x hx
theorem readsU_slice {α : Type} [Inhabited α] {D : Lay α} {P : Program} {t e : TypeId} {size M : Nat} (ht : P.underlying t = some (.slice e)) (hs : P.cellsOf e = size) (hp : 0 < size) (he : ReadsU M P e D) : ReadsU M P t (fun S w l cs => ∃ v, cs = [v] ∧ RdS D size S w v l ∧ l.length ≤ M) := fun enc w base spare held fuel cs x h hw => by
  rcases Go.Deep.open_slice ht h with ⟨rfl, _⟩ | ⟨a, len, cap, m, n, Dt, Pl, rfl, hb, hl, hm, hmm, rfl, hel⟩
  · exact ⟨[], _, rfl, ⟨none, 0, rfl, by simp, by unfold maxLen; omega, fun _ => rfl, fun i hi => by simp at hi⟩, by simp⟩
  · have hlm : len ≤ m := by rw [hmm]; split <;> omega
    simp only [Rows.uptoBulk] at hw
    have hz : ∀ i, i < len → Rows.uptoBulk (Dt i) ≤ M := fun i hi => by
      have := bulk_part (d := Dt i) (l := (List.range len).map Dt) (List.mem_map.2 ⟨i, List.mem_range.2 hi, rfl⟩)
      omega
    have hlen : len ≤ M := by
      have := bulk_length ((List.range len).map Dt)
      simp only [List.length_map, List.length_range] at this
      omega
    obtain ⟨f, hf⟩ := Go.Deep.choose_lt (α := α × List Value) (n := len) (p := fun i ac => ac.2.length = size ∧ (∀ j u, ac.2[j]? = some u → w.cell? ((a.add (i * size)).add j) = some u) ∧ D All w ac.1 ac.2) (fun i hi => by
      obtain ⟨cs', h1, h2⟩ := hel i (by omega)
      rw [hs] at h1
      obtain ⟨h3, h4⟩ := cells?_at h1
      obtain ⟨y, hy⟩ := he enc w base spare held n cs' _ h2 (hz i hi)
      exact ⟨(y, cs'), h3, h4, hy⟩)
    refine ⟨(List.range len).map fun i => (f i).1, _, rfl, ⟨some a, cap, by simp, by simpa using hl, hm, (fun e => nomatch e), fun i hi => ?_⟩, by simpa using hlen⟩
    have hi' : i < len := by simpa using hi
    have hspot : a.spot = none := by
      have h0 := hf 0 (by omega)
      obtain ⟨u, hu⟩ : ∃ u, (f 0).2[0]? = some u := ⟨_, List.getElem?_eq_getElem (by omega)⟩
      have := h0.2.1 0 u hu
      have e : (a.add (0 * size)).add 0 = a := by simp [Addr.add]
      rw [e] at this
      exact World.cell?_spot this
    obtain ⟨b, o, spot⟩ := a
    simp only at hspot
    subst hspot
    have hfi := hf i hi'
    have hcell : ∀ j u, (f i).2[j]? = some u → w.cell? ⟨b, o + i * size + j, none⟩ = some u := fun j u hu => by
      have := hfi.2.1 j u hu
      rwa [Go.WideShapes.add_plain, Go.WideShapes.add_plain] at this
    obtain ⟨u, hu⟩ : ∃ u, (f i).2[0]? = some u := ⟨_, List.getElem?_eq_getElem (by omega)⟩
    exact ⟨b, o, (f i).2, rfl, trivial, World.block_lt_of_cell? w _ (hcell 0 u hu), hfi.1, hcell, by simpa using hfi.2.2⟩
theorem structU {H : Type} {enc : TypeId × Value → H} {P : Program} {w : World} {base : Nat} {spare : Nat → Bool} {held : Bool} {t : TypeId} {fs : Array Field} {fuel M : Nat} {cs : List Value} {x : DataW H × List MemPlace} (ht : P.underlying t = some (.struct fs)) (h : DataW.trod enc P w base spare held fuel t cs = some x) (hw : Rows.uptoBulk x.1 ≤ M + 1) :
    ∃ n, cs.length = P.cellsOf t ∧ ∀ (i : Nat) (f : Field), fs[i]? = some f → ∃ y, DataW.trod enc P w base spare held n f.type ((cs.drop f.offset).take (P.cellsOf f.type)) = some y ∧ Rows.uptoBulk y.1 ≤ M := by
  obtain ⟨xs, n, _, rfl, hl, hlen, hf⟩ := DataW.trod_struct ht h
  refine ⟨n, hl, fun i f hi => ?_⟩
  have h1 := hf i f hi
  have hlt : i < xs.length := by rw [hlen]; exact (Array.getElem?_eq_some_iff.1 hi).1
  rw [List.getElem?_eq_getElem hlt] at h1
  refine ⟨_, h1, ?_⟩
  simp only [Rows.uptoBulk] at hw
  have := bulk_part (d := xs[i].1) (l := xs.map (·.1)) (List.mem_map.2 ⟨xs[i], List.getElem_mem hlt, rfl⟩)
  omega
theorem fieldU {α : Type} {D : Lay α} {H : Type} {enc : TypeId × Value → H} {P : Program} {w : World} {base : Nat} {spare : Nat → Bool} {held : Bool} {t : TypeId} {n M : Nat} {cs : List Value} (o : Nat) (hr : ReadsU M P t D) (hc : P.cellsOf t = 1)
    (h : ∃ y, DataW.trod enc P w base spare held n t ((cs.drop o).take (P.cellsOf t)) = some y ∧ Rows.uptoBulk y.1 ≤ M) : ∃ a : α, D All w a ((cs.drop o).take 1) := by
  obtain ⟨y, h1, h2⟩ := h
  rw [hc] at h1
  exact hr _ _ _ _ _ _ _ _ h1 h2
def LU64s (M : Nat) : Lay (List Nat) := fun S w l cs => ∃ v, cs = [v] ∧ RdS DU64 1 S w v l ∧ l.length ≤ M
def LByts (M : Nat) : Lay (List (List UInt8)) := fun S w l cs => ∃ v, cs = [v] ∧ RdS DBytes 1 S w v l ∧ l.length ≤ M
def LRecs (M : Nat) : Lay (List Rec) := fun S w l cs => ∃ v, cs = [v] ∧ RdS DRecZ 4 S w v l ∧ l.length ≤ M
theorem cu_u64s : Tryz.prog.cellsOf 50 = 1 := by kernel_rfl
theorem cu_byts : Tryz.prog.cellsOf 49 = 1 := by kernel_rfl
theorem cu_bods : Tryz.prog.cellsOf 51 = 1 := by kernel_rfl
theorem cu_vals : Tryz.prog.cellsOf 26 = 1 := by kernel_rfl
theorem cu_recs : Tryz.prog.cellsOf 27 = 1 := by kernel_rfl
theorem ru_int {M : Nat} : ReadsU M Tryz.prog 3 DInt := Reads.u (reads_int Tryz.underlying3)
theorem ru_u64 {M : Nat} : ReadsU M Tryz.prog 54 DU64 := Reads.u (reads_u64 Tryz.underlying54)
theorem ru_u64s {M : Nat} : ReadsU M Tryz.prog 50 (LU64s M) := readsU_slice Tryz.underlying50 (by kernel_rfl) (by decide) ru_u64
theorem ru_bytes {M : Nat} : ReadsU M Tryz.prog 32 (fun S w l cs => ∃ v, cs = [v] ∧ RdS DU8 1 S w v l ∧ l.length ≤ M) := readsU_slice Tryz.underlying32 (by kernel_rfl) (by decide) (Reads.u (reads_u8 Tryz.underlying5))
theorem ru_byt {M : Nat} (hM : M ≤ 1048576) : ReadsU M Tryz.prog 32 DBytes := fun enc w base spare held fuel cs x h hw => by
  obtain ⟨l, v, h1, h2, h3⟩ := ru_bytes enc w base spare held fuel cs x h hw
  exact ⟨l, v, h1, h2, by omega⟩
theorem ru_byts {M : Nat} (hM : M ≤ 1048576) : ReadsU M Tryz.prog 49 (LByts M) := readsU_slice Tryz.underlying49 (by kernel_rfl) (by decide) (ru_byt hM)
theorem ru_rec {M : Nat} (hM : M ≤ 1048576) : ReadsU M Tryz.prog 71 DRecZ := fun enc w base spare held fuel cs x h hw => by
  obtain ⟨n, hl, hf⟩ := structU Tryz.underlying71 h (Nat.le_succ_of_le hw)
  rw [cells_rec] at hl
  obtain ⟨c0, c1, c2, c3, rfl⟩ := list4 hl
  obtain ⟨a0, e0, f0⟩ := fieldU (D := DInt) 0 ru_int cells_int (hf 0 _ rfl)
  obtain ⟨a1, e1, f1⟩ := fieldU (D := DInt) 1 ru_int cells_int (hf 1 _ rfl)
  obtain ⟨a2, e2, f2⟩ := fieldU (D := DU64) 2 ru_u64 cells_u64 (hf 2 _ rfl)
  obtain ⟨a3, v, e3, f3, g3⟩ := fieldU (D := DBytes) 3 (ru_byt hM) cells_bytes (hf 3 _ rfl)
  simp at e0 e1 e2 e3
  subst e0 e1 e2 e3
  exact ⟨⟨a0, a1, a2, a3⟩, ⟨_, rfl, f3, f2⟩, g3⟩
theorem ru_recs {M : Nat} (hM : M ≤ 1048576) : ReadsU M Tryz.prog 27 (LRecs M) := readsU_slice Tryz.underlying27 cells_rec (by decide) (ru_rec hM)
def UBod (M : Nat) : Lay Bod := fun S w b cs => DBodF M S w b cs ∧ ∀ k, UnkLe 1048576 k b
def UVal (M : Nat) : Lay Val := fun S w x cs => DValD M S w x cs ∧ ∀ b ∈ x.2.2.2, ∀ k, UnkLe 1048576 k b
def LBods (M : Nat) : Lay (List Bod) := fun S w l cs => ∃ v, cs = [v] ∧ RdS (UBod M) 2 S w v l ∧ l.length ≤ M
def LVals (M : Nat) : Lay (List Val) := fun S w l cs => ∃ v, cs = [v] ∧ RdS (UVal M) 4 S w v l ∧ l.length ≤ M
instance : Inhabited Val := ⟨val0⟩
theorem ru_bods {M : Nat} (ih : ReadsU M Tryz.prog 29 (UBod M)) : ReadsU M Tryz.prog 51 (LBods M) := readsU_slice Tryz.underlying51 (by kernel_rfl) (by decide) ih
theorem ru_val {M : Nat} (hM : M ≤ 1048576) (ih : ReadsU M Tryz.prog 29 (UBod M)) : ReadsU M Tryz.prog 53 (UVal M) := fun enc w base spare held fuel cs x h hw => by
  obtain ⟨n, hl, hf⟩ := structU Tryz.underlying53 h (Nat.le_succ_of_le hw)
  rw [show Tryz.prog.cellsOf 53 = 4 by kernel_rfl] at hl
  obtain ⟨c0, c1, c2, c3, rfl⟩ := list4 hl
  obtain ⟨a0, e0, f0⟩ := fieldU (D := DInt) 0 ru_int cells_int (hf 0 _ rfl)
  obtain ⟨a1, v1, e1, f1, g1⟩ := fieldU (D := LU64s M) 1 ru_u64s cu_u64s (hf 1 _ rfl)
  obtain ⟨a2, v2, e2, f2, g2⟩ := fieldU (D := LByts M) 2 (ru_byts hM) cu_byts (hf 2 _ rfl)
  obtain ⟨a3, v3, e3, f3, g3⟩ := fieldU (D := LBods M) 3 (ru_bods ih) cu_bods (hf 3 _ rfl)
  simp at e0 e1 e2 e3
  subst e0 e1 e2 e3
  have h3 := RdS.both f3
  exact ⟨(a0, a1, a2, a3), ⟨_, _, _, rfl, f0, f1, f2, h3.1, by show a1.length * 8 ≤ _ ∧ a2.length * 24 ≤ _ ∧ a3.length * 48 ≤ _; omega⟩, h3.2⟩
theorem ru_vals {M : Nat} (ih : ReadsU M Tryz.prog 53 (UVal M)) : ReadsU M Tryz.prog 26 (LVals M) := readsU_slice Tryz.underlying26 (by kernel_rfl) (by decide) ih
theorem ru_bod : ∀ {M : Nat}, M ≤ 1048576 → ReadsU M Tryz.prog 29 (UBod M)
  | 0, _ => fun enc w base spare held fuel cs x h hw => by have := bulk_one x.1; omega
  | M + 1, hM => fun enc w base spare held fuel cs x h hw => by
    obtain ⟨n, hl, hf⟩ := structU Tryz.underlying29 h hw
    rw [show Tryz.prog.cellsOf 29 = 2 by kernel_rfl] at hl
    obtain ⟨c0, c1, rfl⟩ := list2 hl
    obtain ⟨a0, v0, e0, f0, g0⟩ := fieldU (D := LVals M) 0 (ru_vals (ru_val (by omega) (ru_bod (M := M) (by omega)))) cu_vals (hf 0 _ rfl)
    obtain ⟨a1, v1, e1, f1, g1⟩ := fieldU (D := LRecs M) 1 (ru_recs (by omega)) cu_recs (hf 1 _ rfl)
    simp at e0 e1
    subst e0 e1
    have h0 := RdS.both f0
    refine ⟨.mk a0 a1, ⟨_, _, rfl, h0.1, f1, by unfold BodSz Bod.values Bod.unknown; simp only; omega⟩, fun k => ?_⟩
    cases k with
    | zero => exact (show a1.length ≤ _ by omega)
    | succ k => exact ⟨show a1.length ≤ _ by omega, fun v hv s hs => h0.2 v hv s hs k⟩
end Go.Proofs.YtbceapeoknngnaaGreatDoor
set_option linter.unusedVariables false
namespace Go.Proofs.YtbceapeoknngnaaGreatDoor
open Go.RowKit
def ReadsQ {α : Type} (M : Nat) (P : Program) (t : TypeId) (D : Lay α) (g : Nat → α → Nat) : Prop :=
  ∀ {H : Type} (enc : TypeId × Value → H) (w : World) (base : Nat) (spare : Nat → Bool) (held : Bool) (fuel : Nat) (cs : List Value) (x : DataW H × List MemPlace), DataW.trod enc P w base spare held fuel t cs = some x → Rows.uptoBulk x.1 ≤ M → ∃ a : α, D All w a cs ∧ ∀ k, g k a + 25 ≤ 25 * Rows.uptoBulk x.1
theorem ReadsU.q {α : Type} {M : Nat} {P : Program} {t : TypeId} {D : Lay α} (h : ReadsU M P t D) : ReadsQ M P t D (fun _ _ => 0) := fun enc w base spare held fuel cs x hx hw => by
  obtain ⟨a, ha⟩ := h enc w base spare held fuel cs x hx hw
  have := bulk_one x.1
  exact ⟨a, ha, fun k => by show 0 + 25 ≤ _; omega⟩
theorem bulk_sum {H : Type} (Dt : Nat → DataW H) (g : Nat → Nat) : ∀ n, (∀ i, i < n → g i ≤ 25 * Rows.uptoBulk (Dt i)) → ((List.range n).map g).sum ≤ 25 * Rows.uptoBulkAll ((List.range n).map Dt) := by
  have happ : ∀ (l r : List (DataW H)), Rows.uptoBulkAll (l ++ r) = Rows.uptoBulkAll l + Rows.uptoBulkAll r := by
    intro l r
    induction l with
    | nil => simp [Rows.uptoBulkAll]
    | cons a l ih => simp only [List.cons_append, Rows.uptoBulkAll, ih]; omega
  intro n
  induction n with
  | zero => intro _; simp [Rows.uptoBulkAll]
  | succ n ih =>
    intro h
    have h1 := ih (fun i hi => h i (by omega))
    have h2 := h n (by omega)
    rw [List.range_succ, List.map_append, List.map_append, happ, sum_append]
    simp only [List.map_cons, List.map_nil, List.sum_cons, List.sum_nil, Rows.uptoBulkAll]
    omega
theorem readsQ_slice {α : Type} [Inhabited α] {D : Lay α} {P : Program} {t e : TypeId} {size M : Nat} {g : Nat → α → Nat} (ht : P.underlying t = some (.slice e)) (hs : P.cellsOf e = size) (hp : 0 < size) (he : ReadsQ M P e D g) : ReadsQ M P t (fun S w l cs => ∃ v, cs = [v] ∧ RdS D size S w v l ∧ l.length ≤ M) (fun k l => (l.map fun a => g k a + 25).sum) := fun enc w base spare held fuel cs x h hw => by
  rcases Go.Deep.open_slice ht h with ⟨rfl, _⟩ | ⟨a, len, cap, m, n, Dt, Pl, rfl, hb, hl, hm, hmm, rfl, hel⟩
  · have := bulk_one x.1
    exact ⟨[], ⟨_, rfl, ⟨none, 0, rfl, by simp, by unfold maxLen; omega, fun _ => rfl, fun i hi => by simp at hi⟩, by simp⟩, fun k => by simp; omega⟩
  · have hlm : len ≤ m := by rw [hmm]; split <;> omega
    simp only [Rows.uptoBulk] at hw
    have hz : ∀ i, i < len → Rows.uptoBulk (Dt i) ≤ M := fun i hi => by
      have := bulk_part (d := Dt i) (l := (List.range len).map Dt) (List.mem_map.2 ⟨i, List.mem_range.2 hi, rfl⟩)
      omega
    have hlen : len ≤ M := by
      have := bulk_length ((List.range len).map Dt)
      simp only [List.length_map, List.length_range] at this
      omega
    obtain ⟨f, hf⟩ := Go.Deep.choose_lt (α := α × List Value) (n := len) (p := fun i ac => ac.2.length = size ∧ (∀ j u, ac.2[j]? = some u → w.cell? ((a.add (i * size)).add j) = some u) ∧ D All w ac.1 ac.2 ∧ ∀ k, g k ac.1 + 25 ≤ 25 * Rows.uptoBulk (Dt i)) (fun i hi => by
      obtain ⟨cs', h1, h2⟩ := hel i (by omega)
      rw [hs] at h1
      obtain ⟨h3, h4⟩ := cells?_at h1
      obtain ⟨y, hy, hyw⟩ := he enc w base spare held n cs' _ h2 (hz i hi)
      exact ⟨(y, cs'), h3, h4, hy, hyw⟩)
    refine ⟨(List.range len).map fun i => (f i).1, ⟨_, rfl, ⟨some a, cap, by simp, by simpa using hl, hm, (fun e => nomatch e), fun i hi => ?_⟩, by simpa using hlen⟩, fun k => ?_⟩
    · have hi' : i < len := by simpa using hi
      have hspot : a.spot = none := by
        have h0 := hf 0 (by omega)
        obtain ⟨u, hu⟩ : ∃ u, (f 0).2[0]? = some u := ⟨_, List.getElem?_eq_getElem (by omega)⟩
        have := h0.2.1 0 u hu
        have e : (a.add (0 * size)).add 0 = a := by simp [Addr.add]
        rw [e] at this
        exact World.cell?_spot this
      obtain ⟨b, o, spot⟩ := a
      simp only at hspot
      subst hspot
      have hfi := hf i hi'
      have hcell : ∀ j u, (f i).2[j]? = some u → w.cell? ⟨b, o + i * size + j, none⟩ = some u := fun j u hu => by
        have := hfi.2.1 j u hu
        rwa [Go.WideShapes.add_plain, Go.WideShapes.add_plain] at this
      obtain ⟨u, hu⟩ : ∃ u, (f i).2[0]? = some u := ⟨_, List.getElem?_eq_getElem (by omega)⟩
      exact ⟨b, o, (f i).2, rfl, trivial, World.block_lt_of_cell? w _ (hcell 0 u hu), hfi.1, hcell, by simpa using hfi.2.2.1⟩
    · have := bulk_sum Dt (fun i => g k (f i).1 + 25) len (fun i hi => (hf i hi).2.2.2 k)
      simp only [Rows.uptoBulk, List.map_map]
      show ((List.range len).map (fun i => g k (f i).1 + 25)).sum + 25 ≤ _
      omega
theorem structQ {H : Type} {enc : TypeId × Value → H} {P : Program} {w : World} {base : Nat} {spare : Nat → Bool} {held : Bool} {t : TypeId} {fs : Array Field} {fuel : Nat} {cs : List Value} {x : DataW H × List MemPlace} (ht : P.underlying t = some (.struct fs)) (h : DataW.trod enc P w base spare held fuel t cs = some x) :
    ∃ (n : Nat) (xs : List (DataW H × List MemPlace)), cs.length = P.cellsOf t ∧ xs.length = fs.size ∧ Rows.uptoBulk x.1 = Rows.uptoBulkAll (xs.map (·.1)) + 1 ∧ ∀ (i : Nat) (f : Field) (y : DataW H × List MemPlace), fs[i]? = some f → xs[i]? = some y → DataW.trod enc P w base spare held n f.type ((cs.drop f.offset).take (P.cellsOf f.type)) = some y := by
  obtain ⟨xs, n, _, rfl, hl, hlen, hf⟩ := DataW.trod_struct ht h
  refine ⟨n, xs, hl, hlen, by simp only [Rows.uptoBulk], fun i f y hi hy => ?_⟩
  have h1 := hf i f hi
  rw [hy] at h1
  exact h1
theorem fieldQ {α : Type} {D : Lay α} {g : Nat → α → Nat} {H : Type} {enc : TypeId × Value → H} {P : Program} {w : World} {base : Nat} {spare : Nat → Bool} {held : Bool} {t : TypeId} {n M : Nat} {cs : List Value} {y : DataW H × List MemPlace} (o : Nat) (hr : ReadsQ M P t D g) (hc : P.cellsOf t = 1)
    (h : DataW.trod enc P w base spare held n t ((cs.drop o).take (P.cellsOf t)) = some y) (hM : Rows.uptoBulk y.1 ≤ M) : ∃ a : α, D All w a ((cs.drop o).take 1) ∧ ∀ k, g k a + 25 ≤ 25 * Rows.uptoBulk y.1 := by
  rw [hc] at h
  exact hr _ _ _ _ _ _ _ _ h hM
theorem list2' {α : Type} {l : List α} (h : l.length = 2) : ∃ a b, l = [a, b] := list2 h
theorem rq_u64s {M : Nat} : ReadsQ M Tryz.prog 50 (LU64s M) (fun _ l => 25 * l.length) := fun enc w base spare held fuel cs x h hw => by
  obtain ⟨l, h1, h2⟩ := readsQ_slice (size := 1) (M := M) Tryz.underlying50 (by kernel_rfl) (by decide) ru_u64.q enc w base spare held fuel cs x h hw
  refine ⟨l, h1, fun k => ?_⟩
  have := h2 k
  simp only [Nat.zero_add] at this
  rw [sum_25] at this
  exact this
theorem sum_le {α : Type} (g h : α → Nat) : ∀ l : List α, (∀ a ∈ l, g a ≤ h a) → (l.map g).sum ≤ (l.map h).sum
  | [], _ => Nat.le_refl _
  | a :: l, k => by
    have := sum_le g h l (fun b hb => k b (List.mem_cons_of_mem _ hb))
    have := k a List.mem_cons_self
    simp only [List.map_cons, List.sum_cons]
    omega
theorem rq_byt {M : Nat} (hM : M ≤ 1048576) : ReadsQ M Tryz.prog 32 DBytes (fun _ l => l.length) := fun enc w base spare held fuel cs x h hw => by
  obtain ⟨l, ⟨v, h1, h2, h3⟩, h4⟩ := readsQ_slice (size := 1) (M := M) Tryz.underlying32 (by kernel_rfl) (by decide) (ReadsU.q (Reads.u (reads_u8 Tryz.underlying5))) enc w base spare held fuel cs x h hw
  refine ⟨l, ⟨v, h1, h2, by omega⟩, fun k => ?_⟩
  have := h4 k
  simp only [Nat.zero_add] at this
  have e : ∀ l : List UInt8, (l.map fun _ => 25).sum = 25 * l.length := by
    intro l
    induction l with
    | nil => rfl
    | cons a l ih => simp only [List.map_cons, List.sum_cons, List.length_cons, ih]; omega
  rw [e] at this
  show l.length + 25 ≤ _
  omega
theorem rq_byts {M : Nat} (hM : M ≤ 1048576) : ReadsQ M Tryz.prog 49 (LByts M) (fun _ l => (l.map fun t => t.length + 25).sum) := readsQ_slice Tryz.underlying49 (by kernel_rfl) (by decide) (rq_byt hM)
theorem rq_rec {M : Nat} (hM : M ≤ 1048576) : ReadsQ M Tryz.prog 71 DRecZ (fun _ r => r.bytes.length) := fun enc w base spare held fuel cs x h hw => by
  obtain ⟨n, xs, hl, hxs, hb, hf⟩ := structQ Tryz.underlying71 h
  rw [cells_rec] at hl
  obtain ⟨c0, c1, c2, c3, rfl⟩ := list4 hl
  obtain ⟨x0, x1, x2, x3, rfl⟩ := list4 (hxs.trans (by rfl))
  simp only [List.map_cons, List.map_nil, Rows.uptoBulkAll] at hb
  obtain ⟨a0, e0, f0⟩ := fieldQ (M := M) (D := DInt) 0 ru_int.q cells_int (hf 0 _ _ rfl rfl) (by omega)
  obtain ⟨a1, e1, f1⟩ := fieldQ (M := M) (D := DInt) 1 ru_int.q cells_int (hf 1 _ _ rfl rfl) (by omega)
  obtain ⟨a2, ⟨e2, e2'⟩, f2⟩ := fieldQ (M := M) (D := DU64) 2 ru_u64.q cells_u64 (hf 2 _ _ rfl rfl) (by omega)
  obtain ⟨a3, ⟨v, e3, f3, g3⟩, h3⟩ := fieldQ (M := M) (D := DBytes) 3 (rq_byt hM) cells_bytes (hf 3 _ _ rfl rfl) (by omega)
  obtain ⟨e0, e0'⟩ := e0
  obtain ⟨e1, e1'⟩ := e1
  simp at e0 e1 e2 e3
  subst e0 e1 e2 e3
  exact ⟨⟨a0, a1, a2, a3⟩, ⟨⟨_, rfl, f3, e2'⟩, g3⟩, fun k => by have := h3 k; show a3.length + 25 ≤ _; omega⟩
theorem rq_recs {M : Nat} (hM : M ≤ 1048576) : ReadsQ M Tryz.prog 27 (LRecs M) (fun _ l => wgtU l) := readsQ_slice Tryz.underlying27 cells_rec (by decide) (rq_rec hM)
theorem rq_bods {M : Nat} (ih : ReadsQ M Tryz.prog 29 (UBod M) wgt) : ReadsQ M Tryz.prog 51 (LBods M) (fun k l => (l.map fun s => wgt k s + 25).sum) := readsQ_slice Tryz.underlying51 (by kernel_rfl) (by decide) ih
theorem rq_val {M : Nat} (hM : M ≤ 1048576) (ih : ReadsQ M Tryz.prog 29 (UBod M) wgt) : ReadsQ M Tryz.prog 53 (UVal M) (fun k v => wgtV (wgt k) v) := fun enc w base spare held fuel cs x h hw => by
  obtain ⟨n, xs, hl, hxs, hb, hf⟩ := structQ Tryz.underlying53 h
  rw [show Tryz.prog.cellsOf 53 = 4 by kernel_rfl] at hl
  obtain ⟨c0, c1, c2, c3, rfl⟩ := list4 hl
  obtain ⟨x0, x1, x2, x3, rfl⟩ := list4 (hxs.trans (by rfl))
  simp only [List.map_cons, List.map_nil, Rows.uptoBulkAll] at hb
  obtain ⟨a0, ⟨e0, e0'⟩, f0⟩ := fieldQ (M := M) (D := DInt) 0 ru_int.q cells_int (hf 0 _ _ rfl rfl) (by omega)
  obtain ⟨a1, ⟨v1, e1, f1, g1⟩, q1⟩ := fieldQ (M := M) (D := LU64s M) 1 rq_u64s cu_u64s (hf 1 _ _ rfl rfl) (by omega)
  obtain ⟨a2, ⟨v2, e2, f2, g2⟩, q2⟩ := fieldQ (M := M) (D := LByts M) 2 (rq_byts hM) cu_byts (hf 2 _ _ rfl rfl) (by omega)
  obtain ⟨a3, ⟨v3, e3, f3, g3⟩, q3⟩ := fieldQ (M := M) (D := LBods M) 3 (rq_bods ih) cu_bods (hf 3 _ _ rfl rfl) (by omega)
  simp at e0 e1 e2 e3
  subst e0 e1 e2 e3
  have h3 := RdS.both f3
  refine ⟨(a0, a1, a2, a3), ⟨⟨_, _, _, rfl, e0', f1, f2, h3.1, by show a1.length * 8 ≤ _ ∧ a2.length * 24 ≤ _ ∧ a3.length * 48 ≤ _; omega⟩, h3.2⟩, fun k => ?_⟩
  have := q1 k
  have := q2 k
  have := q3 k
  show 25 * a1.length + ((a2.map fun t => t.length + 25).sum + (a3.map fun s => wgt k s + 25).sum) + 25 ≤ _
  omega
theorem rq_vals {M : Nat} (ih : ReadsQ M Tryz.prog 53 (UVal M) (fun k v => wgtV (wgt k) v)) : ReadsQ M Tryz.prog 26 (LVals M) (fun k l => (l.map fun v => wgtV (wgt k) v + 25).sum) := readsQ_slice Tryz.underlying26 (by kernel_rfl) (by decide) ih
theorem rq_bod : ∀ {M : Nat}, M ≤ 1048576 → ReadsQ M Tryz.prog 29 (UBod M) wgt
  | 0, _ => fun enc w base spare held fuel cs x h hw => by have := bulk_one x.1; omega
  | M + 1, hM => fun enc w base spare held fuel cs x h hw => by
    obtain ⟨n, xs, hl, hxs, hb, hf⟩ := structQ Tryz.underlying29 h
    rw [show Tryz.prog.cellsOf 29 = 2 by kernel_rfl] at hl
    obtain ⟨c0, c1, rfl⟩ := list2 hl
    obtain ⟨x0, x1, rfl⟩ := list2' (hxs.trans (by rfl))
    simp only [List.map_cons, List.map_nil, Rows.uptoBulkAll] at hb
    obtain ⟨a0, ⟨v0, e0, f0, g0⟩, q0⟩ := fieldQ (M := M) (D := LVals M) 0 (rq_vals (rq_val (by omega) (rq_bod (M := M) (by omega)))) cu_vals (hf 0 _ _ rfl rfl) (by omega)
    obtain ⟨a1, ⟨v1, e1, f1, g1⟩, q1⟩ := fieldQ (M := M) (D := LRecs M) 1 (rq_recs (by omega)) cu_recs (hf 1 _ _ rfl rfl) (by omega)
    simp at e0 e1
    subst e0 e1
    have h0 := RdS.both f0
    refine ⟨.mk a0 a1, ⟨⟨_, _, rfl, h0.1, f1, by unfold BodSz Bod.values Bod.unknown; simp only; omega⟩, fun k => ?_⟩, fun k => ?_⟩
    · cases k with
      | zero => exact (show a1.length ≤ _ by omega)
      | succ k => exact ⟨show a1.length ≤ _ by omega, fun v hv s hs => h0.2 v hv s hs k⟩
    · cases k with
      | zero =>
        show 0 + 25 ≤ _
        omega
      | succ k =>
        have h1 := q0 k
        have h2 := q1 k
        have h3 := sum_le (wgtV (wgt k)) (fun v => wgtV (wgt k) v + 25) a0 (fun a _ => Nat.le_add_right _ _)
        show (a0.map (wgtV (wgt k))).sum + wgtU a1 + 25 ≤ _
        omega
end Go.Proofs.YtbceapeoknngnaaGreatDoor
