/-
  An element of three cells of a row of the call's own is stored into.
-/
import Derived.Test.YtplgegffapikoabDoorLinkL0
set_option linter.unusedVariables false
namespace Go.Proofs.YtplgegffapikoabDoor
open Go.RowKit
theorem cells3 {ci : List Value} (h : ci.length = 3) (u0 u1 u2 : Value) : ((ci.set 0 u0).set 1 u1).set 2 u2 = [u0, u1, u2] := by
  match ci, h with
  | [a, b, c], _ => rfl
theorem OwnS.set3 {α : Type} {D : Lay α} (hD : Stable D) {base : Nat} {e : TypeId} {S : Nat → Prop} {w : World} {g n cap : Nat} {l : List α} (h : OwnS D base e 3 S w (.slice (some ⟨g, 0, none⟩) n cap) l) (hn : n = l.length) {i : Nat} (hi : i < l.length) {x : α} (u0 u1 u2 : Value)
    (hx : D (Av2 S (.slice (some ⟨g, 0, none⟩) n cap)) (((w.setCell ⟨g, i * 3 + 0, none⟩ u0).setCell ⟨g, i * 3 + 1, none⟩ u1).setCell ⟨g, i * 3 + 2, none⟩ u2) x [u0, u1, u2]) :
    OwnS D base e 3 S (((w.setCell ⟨g, i * 3 + 0, none⟩ u0).setCell ⟨g, i * 3 + 1, none⟩ u1).setCell ⟨g, i * 3 + 2, none⟩ u2) (.slice (some ⟨g, 0, none⟩) n cap) (l.set i x) := by
  subst hn
  obtain ⟨css, h1, h2, h3⟩ := h
  have hall : ∀ c ∈ css, c.length = 3 := fun c hc => by
    obtain ⟨j, hj, rfl⟩ := List.getElem_of_mem hc
    obtain ⟨cs, h4, h5, _⟩ := h3 j (by omega)
    rw [List.getElem?_eq_getElem hj] at h4
    rw [Option.some.inj h4]; exact h5
  obtain ⟨ci, h4, h5, h6⟩ := h3 i hi
  have hset : ∀ (css : List (List Value)) (ci c2 : List Value), (∀ c ∈ css, c.length = 3) → css[i]? = some ci → c2.length = 3 → (∀ c ∈ css.set i c2, c.length = 3) ∧ (css.set i c2)[i]? = some c2 := by
    intro css ci c2 ha hc h2
    have hl : i < css.length := (List.getElem?_eq_some_iff.1 hc).1
    refine ⟨fun c hc => ?_, by rw [List.getElem?_set_self hl]⟩
    rcases List.mem_or_eq_of_mem_set hc with h | h
    · exact ha c h
    · rw [h]; exact h2
  have hf : ((css.flatten.set (i * 3 + 0) u0).set (i * 3 + 1) u1).set (i * 3 + 2) u2 = (css.set i [u0, u1, u2]).flatten := by
    obtain ⟨a1, a2⟩ := hset css ci (ci.set 0 u0) hall h4 (by simpa using h5)
    rw [flatten_set css 3 i 0 u0 ci hall h4 (by decide), flatten_set _ 3 i 1 u1 _ a1 a2 (by decide)]
    obtain ⟨b1, b2⟩ := hset _ _ ((ci.set 0 u0).set 1 u1) a1 a2 (by simpa using h5)
    rw [flatten_set _ 3 i 2 u2 _ b1 b2 (by decide), List.set_set, List.set_set, cells3 h5]
  refine ⟨css.set i [u0, u1, u2], by simpa using h1, ?_, fun j hj => ?_⟩
  · have h := ownsRow_set (ownsRow_set (ownsRow_set h2 (i * 3 + 0) u0) (i * 3 + 1) u1) (i * 3 + 2) u2
    rw [hf] at h
    rw [List.length_set]
    exact h
  · rw [List.length_set] at hj
    by_cases hij : i = j
    · subst hij
      refine ⟨[u0, u1, u2], by rw [List.getElem?_set_self (by omega)], rfl, ?_⟩
      rw [List.getElem_set_self]
      exact hx
    · obtain ⟨cs, h8, h9, h10⟩ := h3 j hj
      refine ⟨cs, by rw [List.getElem?_set_ne hij]; exact h8, h9, ?_⟩
      rw [List.getElem_set_ne hij]
      have hk : ∀ (W : World) (o : Nat) (u : Value), Keep (Av2 S (.slice (some ⟨g, 0, none⟩) l.length cap)) W (Av2 S (.slice (some ⟨g, 0, none⟩) l.length cap)) (W.setCell ⟨g, o, none⟩ u) := fun W o u => Keep.setCell (fun h => h.2 rfl) u
      exact hD _ _ _ _ _ _ (((hk _ _ _).trans (hk _ _ _)).trans (hk _ _ _)) h10
end Go.Proofs.YtplgegffapikoabDoor
