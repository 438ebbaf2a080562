/-
  A field of a row of the call's own is stored into.
-/
import Derived.Test.YtplgegffapikoabDoorLr22
set_option linter.unusedVariables false
namespace Go.Proofs.YtplgegffapikoabDoor
open Go.RowKit
theorem OwnS.setKind {base : Nat} {e : TypeId} {S : Nat → Prop} {w : World} {g n cap : Nat} {l : List Fld} (h : OwnS DFld base e 6 S w (.slice (some ⟨g, 0, none⟩) n cap) l) (hn : n = l.length) {i : Nat} (hi : i < l.length) :
    OwnS DFld base e 6 S (w.setCell ⟨g, i * 6 + 2, none⟩ (.int .i64 5)) (.slice (some ⟨g, 0, none⟩) n cap) (l.set i { l[i] with kind := 5 }) := by
  subst hn
  obtain ⟨css, h1, h2, h3⟩ := h
  have hall : ∀ c ∈ css, c.length = 6 := fun c hc => by
    obtain ⟨j, hj, rfl⟩ := List.getElem_of_mem hc
    obtain ⟨cs, h4, h5, _⟩ := h3 j (by omega)
    rw [List.getElem?_eq_getElem hj] at h4
    rw [Option.some.inj h4]; exact h5
  obtain ⟨ci, h4, h5, h6, h7⟩ := h3 i hi
  refine ⟨css.set i (ci.set 2 (.int .i64 5)), by simpa using h1, ?_, fun j hj => ?_⟩
  · have h := ownsRow_set h2 (i * 6 + 2) (.int .i64 5)
    rw [flatten_set css 6 i 2 _ ci hall h4 (by decide)] at h
    rw [List.length_set]
    exact h
  · rw [List.length_set] at hj
    by_cases hij : i = j
    · subst hij
      refine ⟨ci.set 2 (.int .i64 5), by rw [List.getElem?_set_self (by omega)], by rw [List.length_set]; exact h5, ?_⟩
      rw [List.getElem_set_self]
      subst h6
      exact ⟨rfl, h7.1, (show okI 5 from ⟨by decide, by decide⟩), h7.2.2⟩
    · obtain ⟨cs, h8, h9, h10⟩ := h3 j hj
      refine ⟨cs, by rw [List.getElem?_set_ne hij]; exact h8, h9, ?_⟩
      rw [List.getElem_set_ne hij]
      exact h10
/-- The fields of a message, those before k linked. -/
def mixL (f : Fil) (l : List Fld) (k : Nat) : List Fld := (l.take k).map (linkX f) ++ l.drop k
theorem mixL_len (f : Fil) (l : List Fld) {k : Nat} (h : k ≤ l.length) : (mixL f l k).length = l.length := by
  unfold mixL
  simp
  omega
theorem mixL_at (f : Fil) (l : List Fld) {k : Nat} (h : k < l.length) : (mixL f l k)[k]'(by rw [mixL_len f l (by omega)]; exact h) = l[k] := by
  unfold mixL
  rw [List.getElem_append_right (by simp; omega)]
  simp [List.length_take, Nat.min_eq_left (Nat.le_of_lt h)]
theorem mixL_succ (f : Fil) (l : List Fld) {k : Nat} (h : k < l.length) : mixL f l (k + 1) = (mixL f l k).set k (linkX f l[k]) := by
  unfold mixL
  rw [List.take_succ_eq_append_getElem h, List.map_append, List.append_assoc, List.set_append_right _ _ (by simp; omega), List.drop_eq_getElem_cons h]
  simp only [List.length_map, List.length_take, Nat.min_eq_left (Nat.le_of_lt h), Nat.sub_self, List.set_cons_zero, List.map_cons, List.map_nil, List.cons_append, List.nil_append]
theorem mixL_same (f : Fil) (l : List Fld) {k : Nat} (h : k < l.length) (e : linkX f l[k] = l[k]) : mixL f l (k + 1) = mixL f l k := by
  rw [mixL_succ f l h, e]
  have := mixL_at f l h
  conv => lhs; rw [← this]
  exact List.set_getElem_self _
theorem mixL_all (f : Fil) (l : List Fld) : mixL f l l.length = l.map (linkX f) := by unfold mixL; simp
/-- A message of the call's own, its fields and its barred numbers in rows of the call's own. -/
def LkP (wo : World) (M : Nat) (nm : List UInt8) (lf : List Fld) (lb : List Int) (w : World) : Prop := ∃ a1 c1 a2 c2, w.heap[M]? = some (.cells #[.string ⟨nm.toArray⟩, .slice a1 lf.length c1, .slice a2 lb.length c2] 46 (0, 0)) ∧
  OwnS DFld (M + 1) 48 6 No w (.slice a1 lf.length c1) lf ∧ OwnS DInt (M + 1) 3 1 No w (.slice a2 lb.length c2) lb ∧ (∀ j, (Value.slice a1 lf.length c1).ownBlock = some j → (Value.slice a2 lb.length c2).ownBlock ≠ some j) ∧ Up wo w
theorem lk_fin {wo wz : World} {M : Nat} {nm : List UInt8} {lf : List Fld} {lb : List Int} {u1 u2 : Value} {a1 a2 : Option Addr} {c1 c2 B1 B2 : Nat} (hm : wz.heap[M]? = some (.cells #[.string ⟨nm.toArray⟩, u1, u2] 46 (0, 0)))
    (h1 : OwnS DFld B1 48 6 All wz (.slice a1 lf.length c1) lf) (hB1 : M + 1 ≤ B1) (h2 : OwnS DInt B2 3 1 All wz (.slice a2 lb.length c2) lb) (hB2 : M + 1 ≤ B2)
    (hd : ∀ j, (Value.slice a1 lf.length c1).ownBlock = some j → (Value.slice a2 lb.length c2).ownBlock ≠ some j) (hu : Up wo wz) (hM : wo.heap.size ≤ M) :
    LkP wo M nm lf lb ((wz.setCell ⟨M, 1, none⟩ (.slice a1 lf.length c1)).setCell ⟨M, 2, none⟩ (.slice a2 lb.length c2)) ∧ LkP wo M nm lf lb ((wz.setCell ⟨M, 2, none⟩ (.slice a2 lb.length c2)).setCell ⟨M, 1, none⟩ (.slice a1 lf.length c1)) := by
  have n1 : (Value.slice a1 lf.length c1).ownBlock ≠ some M := fun e => by have := (h1.lo _ e).1; omega
  have n2 : (Value.slice a2 lb.length c2).ownBlock ≠ some M := fun e => by have := (h2.lo _ e).1; omega
  have g1 := h1.pure (S' := No) pure_fld hB1
  have g2 := h2.pure (S' := No) pure_int hB2
  refine ⟨⟨a1, c1, a2, c2, heap_setCell_same _ _ 2 _ _ _ (heap_setCell_same _ _ 1 _ _ _ hm), ?_, ?_, hd, Up.setCell (Up.setCell hu hM _) hM _⟩, ⟨a1, c1, a2, c2, heap_setCell_same _ _ 1 _ _ _ (heap_setCell_same _ _ 2 _ _ _ hm), ?_, ?_, hd, Up.setCell (Up.setCell hu hM _) hM _⟩⟩
  · exact OwnS.setCell stable_fld (OwnS.setCell stable_fld g1 n1 id _) n1 id _
  · exact OwnS.setCell stable_int (OwnS.setCell stable_int g2 n2 id _) n2 id _
  · exact OwnS.setCell stable_fld (OwnS.setCell stable_fld g1 n1 id _) n1 id _
  · exact OwnS.setCell stable_int (OwnS.setCell stable_int g2 n2 id _) n2 id _
end Go.Proofs.YtplgegffapikoabDoor
