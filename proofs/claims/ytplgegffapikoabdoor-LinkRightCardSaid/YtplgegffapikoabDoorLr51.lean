/-
  How Go's data, as they come in, read as lists and records.
-/
import Derived.Test.YtplgegffapikoabDoorLr03
import Derived.Deep.Slices
import Derived.ChangeArms
import Derived.ChangeSame
import Derived.DataReads
import Derived.SizedLaws
set_option linter.unusedVariables false
namespace Go.Proofs.YtplgegffapikoabDoor
open Go.RowKit

/-- What reads as data of type t lies as some a. -/
def Reads {α : Type} (P : Program) (t : TypeId) (D : Lay α) : Prop :=
  ∀ {H : Type} (enc : TypeId × Value → H) (w : World) (base : Nat) (spare : Nat → Bool) (held : Bool) (fuel : Nat) (cs : List Value) (x : DataW H × List MemPlace), DataW.trod enc P w base spare held fuel t cs = some x → ∃ a : α, D All w a cs

theorem reads_u8 {P : Program} {t : TypeId} (ht : P.underlying t = some (.int .u8)) : Reads P t DU8 := fun enc w base spare held fuel cs x h => by
  obtain ⟨n, rfl, _, hwf⟩ := DataW.trod_int ht h
  have hx : 0 ≤ n ∧ n ≤ 255 := by simpa [Lit.wf, IntKind.min, IntKind.max, IntKind.signed, IntKind.bits] using hwf
  refine ⟨UInt8.ofNat n.toNat, ?_⟩
  unfold DU8
  have : (UInt8.ofNat n.toNat).toNat = n.toNat := by simp; omega
  rw [this]
  congr 2; omega
theorem reads_int {P : Program} {t : TypeId} (ht : P.underlying t = some (.int .i64)) : Reads P t DInt := fun enc w base spare held fuel cs x h => by
  obtain ⟨n, rfl, _, hwf⟩ := DataW.trod_int ht h
  have hx : -9223372036854775808 ≤ n ∧ n ≤ 9223372036854775807 := by simpa [Lit.wf, IntKind.min, IntKind.max, IntKind.signed, IntKind.bits] using hwf
  exact ⟨n, rfl, hx.1, hx.2⟩
theorem reads_u64 {P : Program} {t : TypeId} (ht : P.underlying t = some (.int .u64)) : Reads P t DU64 := fun enc w base spare held fuel cs x h => by
  obtain ⟨n, rfl, _, hwf⟩ := DataW.trod_int ht h
  have hx : 0 ≤ n ∧ n ≤ 18446744073709551615 := by simpa [Lit.wf, IntKind.min, IntKind.max, IntKind.signed, IntKind.bits] using hwf
  refine ⟨n.toNat, ?_, by omega⟩
  congr 2; omega
theorem cells?_at {w : World} {base : Nat} {a : Addr} {n : Nat} {cs : List Value} (h : w.cells? base a n = some cs) : cs.length = n ∧ ∀ j u, cs[j]? = some u → w.cell? (a.add j) = some u := by
  obtain ⟨_, hl, hc⟩ := World.cells?_some h
  refine ⟨hl, fun j u hu => ?_⟩
  have hj : j < n := by rw [← hl]; exact (List.getElem?_eq_some_iff.1 hu).1
  rw [hc j hj]; exact hu
theorem reads_slice {α : Type} [Inhabited α] {D : Lay α} {P : Program} {t e : TypeId} {size : Nat} (ht : P.underlying t = some (.slice e)) (hs : P.cellsOf e = size) (hp : 0 < size) (he : Reads P e D) : Reads P t (fun S w l cs => ∃ v, cs = [v] ∧ RdS D size S w v l) := fun enc w base spare held fuel cs x h => by
  rcases Go.Deep.open_slice ht h with ⟨rfl, _⟩ | ⟨a, len, cap, m, n, Dt, Pl, rfl, hb, hl, hm, hmm, _, hel⟩
  · exact ⟨[], _, rfl, none, 0, rfl, by simp, by unfold maxLen; omega, fun _ => rfl, fun i hi => by simp at hi⟩
  · have hlm : len ≤ m := by rw [hmm]; split <;> omega
    obtain ⟨f, hf⟩ := Go.Deep.choose_lt (α := α × List Value) (n := len) (p := fun i ac => ac.2.length = size ∧ (∀ j u, ac.2[j]? = some u → w.cell? ((a.add (i * size)).add j) = some u) ∧ D All w ac.1 ac.2) (fun i hi => by
      obtain ⟨cs', h1, h2⟩ := hel i (by omega)
      rw [hs] at h1
      obtain ⟨h3, h4⟩ := cells?_at h1
      obtain ⟨y, hy⟩ := he enc w base spare held n cs' _ h2
      exact ⟨(y, cs'), h3, h4, hy⟩)
    refine ⟨(List.range len).map fun i => (f i).1, _, rfl, some a, cap, by simp, by simpa using hl, hm, (fun e => nomatch e), fun i hi => ?_⟩
    have hi' : i < len := by simpa using hi
    have hspot : a.spot = none := by
      have h0 := hf 0 (by omega)
      obtain ⟨u, hu⟩ : ∃ u, (f 0).2[0]? = some u := ⟨_, List.getElem?_eq_getElem (by omega)⟩
      have := h0.2.1 0 u hu
      have e : (a.add (0 * size)).add 0 = a := by simp [Addr.add]
      rw [e] at this
      exact World.cell?_spot this
    obtain ⟨b, o, spot⟩ := a
    simp only at hspot
    subst hspot
    have hfi := hf i hi'
    have hcell : ∀ j u, (f i).2[j]? = some u → w.cell? ⟨b, o + i * size + j, none⟩ = some u := fun j u hu => by
      have := hfi.2.1 j u hu
      rwa [Go.WideShapes.add_plain, Go.WideShapes.add_plain] at this
    obtain ⟨u, hu⟩ : ∃ u, (f i).2[0]? = some u := ⟨_, List.getElem?_eq_getElem (by omega)⟩
    exact ⟨b, o, (f i).2, rfl, trivial, World.block_lt_of_cell? w _ (hcell 0 u hu), hfi.1, hcell, by simpa using hfi.2.2⟩
/-- The form's own reach, of a slice of bytes. -/
theorem bytes_reach {H : Type} {enc : TypeId × Value → H} {P : Program} {w : World} {base : Nat} {spare : Nat → Bool} {held : Bool} {fuel : Nat} {t e : TypeId} {a : Option Addr} {n cap : Nat} {d : DataW H} {p : List MemPlace} {S : Nat → Prop} {l : List UInt8} (ht : P.underlying t = some (.slice e)) (hb : P.bytesOf e = 1)
    (h : DataW.trod enc P w base spare held fuel t [.slice a n cap] = some (d, p)) (hs : ∀ elems spare, d = .slice elems spare → (elems.length + spare.length) * P.bytesOf e ≤ reachBytes) (hr : RdB S w (.slice a n cap) l) : l.length ≤ 140737488351232 := by
  have hn : n = l.length := (RdB.news hr).1
  rcases DataW.trod_slice ht h with ⟨h0, _⟩ | ⟨a', len, cap', elems, rest, m, _, hcs, hx, _, _, _, hlen, _⟩
  · simp at h0
    omega
  · simp only [List.cons.injEq, Value.slice.injEq, and_true] at hcs
    simp only [Prod.mk.injEq] at hx
    have := hs _ _ hx.1
    rw [hb] at this
    simp only [List.length_map, reachBytes] at this
    omega
end Go.Proofs.YtplgegffapikoabDoor
