/-
  How Go's data, as they come in, read as lists and records, none larger than the form's own reach.
-/
import Derived.Test.YtplgegffapikoabDoorLr51
set_option linter.unusedVariables false
namespace Go.Proofs.YtplgegffapikoabDoor
open Go.RowKit

/-- What reads as data of type t, none of it too large, lies as some a. -/
def ReadsZ {α : Type} (P : Program) (t : TypeId) (D : Lay α) : Prop :=
  ∀ {H : Type} (enc : TypeId × Value → H) (w : World) (base : Nat) (spare : Nat → Bool) (held : Bool) (fuel : Nat) (cs : List Value) (x : DataW H × List MemPlace), DataW.trod enc P w base spare held fuel t cs = some x → (∀ n ∈ x.1.weights P t, n ≤ reachBytes) → ∃ a : α, D All w a cs
theorem Reads.z {α : Type} {P : Program} {t : TypeId} {D : Lay α} (h : Reads P t D) : ReadsZ P t D := fun enc w base spare held fuel cs x hx _ => h enc w base spare held fuel cs x hx
theorem reads_bool {P : Program} {t : TypeId} (ht : P.underlying t = some .bool) : Reads P t (fun _ _ (b : Bool) cs => cs = [.bool b]) := fun enc w base spare held fuel cs x h => by
  obtain ⟨b, rfl, _⟩ := DataW.trod_bool ht h
  exact ⟨b, rfl⟩
theorem readsZ_str {P : Program} {t : TypeId} (ht : P.underlying t = some .string) : ReadsZ P t DStr := fun enc w base spare held fuel cs x h hw => by
  obtain ⟨s, rfl, rfl, _⟩ := DataW.trod_string ht h
  have := hw s.data.toList.length (by simp [DataW.weights])
  refine ⟨s.data.toList, by simp, ?_⟩
  simp only [reachBytes] at this
  omega
theorem weights_all {H : Type} {P : Program} {e : TypeId} : ∀ {ds : List (DataW H)} {d : DataW H}, d ∈ ds → ∀ n ∈ d.weights P e, n ∈ DataW.weightsAll P e ds
  | d0 :: ds, d, hd, n, hn => by
    simp only [DataW.weightsAll, List.mem_append]
    rcases List.mem_cons.1 hd with rfl | hd
    · exact .inl hn
    · exact .inr (weights_all hd n hn)
theorem readsZ_slice {α : Type} [Inhabited α] {D : Lay α} {P : Program} {t e : TypeId} {size bytes : Nat} (ht : P.underlying t = some (.slice e)) (hs : P.cellsOf e = size) (hby : P.bytesOf e = bytes) (hp : 0 < size) (he : ReadsZ P e D) : ReadsZ P t (fun S w l cs => ∃ v, cs = [v] ∧ RdS D size S w v l ∧ l.length * bytes ≤ 140737488351232) := fun enc w base spare held fuel cs x h hw => by
  rcases Go.Deep.open_slice ht h with ⟨rfl, _⟩ | ⟨a, len, cap, m, n, Dt, Pl, rfl, hb, hl, hm, hmm, rfl, hel⟩
  · exact ⟨[], _, rfl, ⟨none, 0, rfl, by simp, by unfold maxLen; omega, fun _ => rfl, fun i hi => by simp at hi⟩, by simp⟩
  · have hlm : len ≤ m := by rw [hmm]; split <;> omega
    have hz : ∀ i, i < len → ∀ n ∈ (Dt i).weights P e, n ≤ reachBytes := fun i hi n hn => hw n (by
      simp only [DataW.weights, ht]
      refine List.mem_cons_of_mem _ (List.mem_append_left _ (weights_all (d := Dt i) ?_ n hn))
      exact List.mem_map.2 ⟨i, List.mem_range.2 hi, rfl⟩)
    have hlen : len * bytes ≤ 140737488351232 := by
      have := hw _ (by simp only [DataW.weights, ht]; exact List.mem_cons_self)
      rw [hby] at this
      simp only [List.length_map, List.length_range, reachBytes] at this
      exact Nat.le_trans (Nat.mul_le_mul_right _ (Nat.le_add_right _ _)) this
    obtain ⟨f, hf⟩ := Go.Deep.choose_lt (α := α × List Value) (n := len) (p := fun i ac => ac.2.length = size ∧ (∀ j u, ac.2[j]? = some u → w.cell? ((a.add (i * size)).add j) = some u) ∧ D All w ac.1 ac.2) (fun i hi => by
      obtain ⟨cs', h1, h2⟩ := hel i (by omega)
      rw [hs] at h1
      obtain ⟨h3, h4⟩ := cells?_at h1
      obtain ⟨y, hy⟩ := he enc w base spare held n cs' _ h2 (hz i hi)
      exact ⟨(y, cs'), h3, h4, hy⟩)
    refine ⟨(List.range len).map fun i => (f i).1, _, rfl, ⟨some a, cap, by simp, by simpa using hl, hm, (fun e => nomatch e), fun i hi => ?_⟩, by simpa using hlen⟩
    have hi' : i < len := by simpa using hi
    have hspot : a.spot = none := by
      have h0 := hf 0 (by omega)
      obtain ⟨u, hu⟩ : ∃ u, (f 0).2[0]? = some u := ⟨_, List.getElem?_eq_getElem (by omega)⟩
      have := h0.2.1 0 u hu
      have e : (a.add (0 * size)).add 0 = a := by simp [Addr.add]
      rw [e] at this
      exact World.cell?_spot this
    obtain ⟨b, o, spot⟩ := a
    simp only at hspot
    subst hspot
    have hfi := hf i hi'
    have hcell : ∀ j u, (f i).2[j]? = some u → w.cell? ⟨b, o + i * size + j, none⟩ = some u := fun j u hu => by
      have := hfi.2.1 j u hu
      rwa [Go.WideShapes.add_plain, Go.WideShapes.add_plain] at this
    obtain ⟨u, hu⟩ : ∃ u, (f i).2[0]? = some u := ⟨_, List.getElem?_eq_getElem (by omega)⟩
    exact ⟨b, o, (f i).2, rfl, trivial, World.block_lt_of_cell? w _ (hcell 0 u hu), hfi.1, hcell, by simpa using hfi.2.2⟩
/-- A struct's fields, each by itself. -/
theorem structZ {H : Type} {enc : TypeId × Value → H} {P : Program} {w : World} {base : Nat} {spare : Nat → Bool} {held : Bool} {t : TypeId} {fs : Array Field} {fuel : Nat} {cs : List Value} {x : DataW H × List MemPlace} (ht : P.underlying t = some (.struct fs)) (h : DataW.trod enc P w base spare held fuel t cs = some x) (hw : ∀ n ∈ x.1.weights P t, n ≤ reachBytes) :
    ∃ n, cs.length = P.cellsOf t ∧ ∀ (i : Nat) (f : Field), fs[i]? = some f → ∃ y, DataW.trod enc P w base spare held n f.type ((cs.drop f.offset).take (P.cellsOf f.type)) = some y ∧ ∀ n ∈ y.1.weights P f.type, n ≤ reachBytes := by
  obtain ⟨xs, n, _, rfl, hl, hlen, hf⟩ := DataW.trod_struct ht h
  refine ⟨n, hl, fun i f hi => ?_⟩
  have h1 := hf i f hi
  have hlt : i < xs.length := by rw [hlen]; exact (Array.getElem?_eq_some_iff.1 hi).1
  rw [List.getElem?_eq_getElem hlt] at h1
  refine ⟨_, h1, fun k hk => hw k ?_⟩
  simp only [DataW.weights, ht]
  refine DataW.weights_mem_each (j := i) (t := f.type) (d := xs[i].1) ?_ ?_ k hk
  · rw [List.getElem?_map, Array.getElem?_toList, hi]; rfl
  · rw [List.getElem?_map, List.getElem?_eq_getElem hlt]; rfl
/-- A field of one cell. -/
theorem fieldZ {α : Type} {D : Lay α} {H : Type} {enc : TypeId × Value → H} {P : Program} {w : World} {base : Nat} {spare : Nat → Bool} {held : Bool} {t : TypeId} {n : Nat} {cs : List Value} (o : Nat) (hr : ReadsZ P t D) (hc : P.cellsOf t = 1)
    (h : ∃ y, DataW.trod enc P w base spare held n t ((cs.drop o).take (P.cellsOf t)) = some y ∧ ∀ n ∈ y.1.weights P t, n ≤ reachBytes) : ∃ a : α, D All w a ((cs.drop o).take 1) := by
  obtain ⟨y, h1, h2⟩ := h
  rw [hc] at h1
  exact hr _ _ _ _ _ _ _ _ h1 h2
theorem list2 {α : Type} {l : List α} (h : l.length = 2) : ∃ a b, l = [a, b] := by
  match l, h with
  | [a, b], _ => exact ⟨a, b, rfl⟩
theorem list3 {α : Type} {l : List α} (h : l.length = 3) : ∃ a b c, l = [a, b, c] := by
  match l, h with
  | [a, b, c], _ => exact ⟨a, b, c, rfl⟩
theorem list5 {α : Type} {l : List α} (h : l.length = 5) : ∃ a b c d e, l = [a, b, c, d, e] := by
  match l, h with
  | [a, b, c, d, e], _ => exact ⟨a, b, c, d, e, rfl⟩
theorem list6 {α : Type} {l : List α} (h : l.length = 6) : ∃ a b c d e f, l = [a, b, c, d, e, f] := by
  match l, h with
  | [a, b, c, d, e, f], _ => exact ⟨a, b, c, d, e, f, rfl⟩
/-- What a row's elements have besides. -/
theorem RdS.both {α : Type} {D : Lay α} {Z : α → Prop} {size : Nat} {S : Nat → Prop} {w : World} {v : Value} {l : List α} (h : RdS (fun S w a cs => D S w a cs ∧ Z a) size S w v l) : RdS D size S w v l ∧ ∀ a ∈ l, Z a := by
  obtain ⟨ao, cap, hv, h1, h2, h3, h4⟩ := h
  refine ⟨⟨ao, cap, hv, h1, h2, h3, fun i hi => ?_⟩, fun a ha => ?_⟩
  · obtain ⟨b, o, cs, e1, e2, e3, e4, e5, e6⟩ := h4 i hi
    exact ⟨b, o, cs, e1, e2, e3, e4, e5, e6.1⟩
  · obtain ⟨i, hi, rfl⟩ := List.getElem_of_mem ha
    obtain ⟨b, o, cs, e1, e2, e3, e4, e5, e6⟩ := h4 i hi
    exact e6.2
end Go.Proofs.YtplgegffapikoabDoor
