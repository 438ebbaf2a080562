/-
  What is barred is not used, in plain Lean.
-/
import Derived.Test.YtplgegffapikoabDoorWrongPlain
set_option linter.unusedVariables false
namespace Go.Proofs.YtplgegffapikoabDoor
theorem firstAt_zero : ∀ (l : List Int) (i : Nat), (firstAt i l).1 = 0 → ∀ a ∈ l, a = 0
  | [], _, _, a, ha => by cases ha
  | b :: l, i, h, a, ha => by
    rw [firstAt] at h
    split at h
    · rename_i hb; exact absurd h hb
    · rename_i hb
      rcases List.mem_cons.1 ha with rfl | ha
      · exact Decidable.not_not.1 hb
      · exact firstAt_zero l _ h a ha
theorem firstN_zero : ∀ (l : List Int), firstN l = 0 → ∀ a ∈ l, a = 0
  | [], _, a, ha => by cases ha
  | b :: l, h, a, ha => by
    rw [firstN] at h
    split at h
    · rename_i hb; exact absurd h hb
    · rename_i hb
      rcases List.mem_cons.1 ha with rfl | ha
      · exact Decidable.not_not.1 hb
      · exact firstN_zero l h a ha
theorem idxP_map {α β : Type} (q : β → Bool) (h : α → β) : ∀ l : List α, idxP (fun a => q (h a)) l = idxP q (l.map h)
  | [] => rfl
  | a :: l => by rw [List.map_cons, idxP, idxP, idxP_map q h l]
/-- A file, a number of message k's field x barred there. -/
def barF (f : Fil) (k : Nat) (m : Msg) (n : Int) : Fil := ⟨f.msgs.set k { m with barred := m.barred ++ [n] }, f.enums⟩
theorem barF_names {f : Fil} {k : Nat} {m : Msg} {n : Int} (hk : f.msgs[k]? = some m) : (barF f k m n).msgs.map (·.name) = f.msgs.map (·.name) := by
  unfold barF
  simp only [List.map_set]
  obtain ⟨h, e⟩ := List.getElem?_eq_some_iff.1 hk
  apply List.ext_getElem
  · simp
  · intro i h1 h2
    rw [List.getElem_set]
    split
    · rename_i hi
      subst hi
      simp [e]
    · rfl
theorem typed_bar {f : Fil} {k : Nat} {m : Msg} {n : Int} (hk : f.msgs[k]? = some m) (x : Fld) : typedN (barF f k m n) x = typedN f x := by
  have h : idxP (fun m => m.name == x.type) (barF f k m n).msgs = idxP (fun m => m.name == x.type) f.msgs := by
    rw [idxP_map (fun s => s == x.type) (fun m : Msg => m.name), barF_names hk, ← idxP_map (fun s => s == x.type) (fun m : Msg => m.name)]
  unfold typedN
  rw [h]
  rfl
theorem field_bar {f : Fil} {k : Nat} {m : Msg} {n : Int} (hk : f.msgs[k]? = some m) (m' : Msg) (i : Nat) (x : Fld) : fieldN (barF f k m n) m' i x = fieldN f m' i x := by
  unfold fieldN
  rw [typed_bar hk]
theorem msg_bar {f : Fil} {k : Nat} {m : Msg} {n : Int} (hk : f.msgs[k]? = some m) (m' : Msg) : msgN (barF f k m n) m' = msgN f m' := by
  unfold msgN
  rw [show fieldN (barF f k m n) m' = fieldN f m' from funext fun i => funext fun x => field_bar hk m' i x]
theorem wrong_zero {f : Fil} (h : (wrongN f).1 = 0) : ¬ 10 < f.msgs.length + f.enums.length ∧ (firstAt 0 ((hadN f).mapIdx (nameN (hadN f)))).1 = 0 ∧ (∀ m ∈ f.msgs, msgN f m = 0) := by
  unfold wrongN at h
  split at h
  · cases h
  · rename_i h1
    split at h
    · rename_i h2; exact absurd h h2
    · rename_i h2
      split at h
      · rename_i h3; exact absurd h h3
      · rename_i h3
        exact ⟨h1, Decidable.not_not.1 h2, fun m hm => firstAt_zero _ _ (Decidable.not_not.1 h3) _ (List.mem_map_of_mem hm)⟩
theorem msg_zero {f : Fil} {m : Msg} (h : msgN f m = 0) : m.fields.length ≤ 16 ∧ m.barred.length ≤ 16 ∧ m.barred.any (fun n => decide (n < 0 ∨ 536870912 ≤ n)) = false ∧ ∀ i, (hi : i < m.fields.length) → fieldN f m i m.fields[i] = 0 := by
  unfold msgN at h
  split at h
  · cases h
  · rename_i h1
    split at h
    · cases h
    · rename_i h2
      refine ⟨by omega, by omega, by simpa using h2, fun i hi => firstN_zero _ h _ ?_⟩
      rw [List.mem_iff_getElem]
      exact ⟨i, by simpa using hi, by simp⟩
theorem field_zero {f : Fil} {m : Msg} {i : Nat} {x : Fld} (h : fieldN f m i x = 0) : (!named x.name || (m.fields.take i).any (fun y => x.name == y.name)) = false ∧ ¬ (x.number < 1 ∨ 536870912 ≤ x.number ∨ (19000 ≤ x.number ∧ x.number < 20000)) ∧ m.barred.any (fun n => x.number == n) = false ∧ (m.fields.take i).any (fun y => x.number == y.number) = false := by
  unfold fieldN at h
  split at h
  · cases h
  · rename_i h1
    split at h
    · cases h
    · rename_i h2
      split at h
      · cases h
      · rename_i h3
        simp only [Bool.or_eq_true, not_or, Bool.not_eq_true] at h3
        exact ⟨by simpa using h1, h2, h3.1, h3.2⟩
/-- What is barred is no field's number. -/
theorem bar_unused {f : Fil} {m : Msg} (h0 : (wrongN f).1 = 0) (hm : m ∈ f.msgs) {i j : Nat} (hi : i < m.fields.length) (hj : j < m.barred.length) : (m.fields[i].number == m.barred[j]) = false := by
  have h1 := (msg_zero ((wrong_zero h0).2.2 m hm)).2.2.2 i hi
  have h2 := (field_zero h1).2.2.1
  rw [List.any_eq_false] at h2
  simpa using h2 _ (List.getElem_mem hj)
theorem field_keeps {f : Fil} {m : Msg} {i : Nat} {x : Fld} {n : Int} (h : fieldN f m i x = 0) (hn : (x.number == n) = false) : fieldN f { m with barred := m.barred ++ [n] } i x = 0 := by
  have h' := h
  unfold fieldN at h' ⊢
  simp only [List.any_append, List.any_cons, List.any_nil, hn, Bool.or_false]
  exact h'
/-- Where a field's number is barred, too, that message does not fit. -/
theorem bar_wrong {f : Fil} {k : Nat} {m : Msg} {i : Nat} (h0 : (wrongN f).1 = 0) (hk : f.msgs[k]? = some m) (hi : i < m.fields.length) (hb : m.barred.length < 16) : wrongN (barF f k m m.fields[i].number) = (8, k) := by
  obtain ⟨hkl, hke⟩ := List.getElem?_eq_some_iff.1 hk
  have hm : m ∈ f.msgs := hke ▸ List.getElem_mem hkl
  obtain ⟨w1, w2, w3⟩ := wrong_zero h0
  obtain ⟨m1, m2, m3, m4⟩ := msg_zero (w3 m hm)
  have hx := field_zero (m4 i hi)
  obtain ⟨g, hg⟩ : ∃ g, g = barF f k m m.fields[i].number := ⟨_, rfl⟩
  have hgl : g.msgs.length = f.msgs.length := by rw [hg]; simp [barF]
  have hge : g.enums = f.enums := by rw [hg]; rfl
  have hhad : hadN g = hadN f := by unfold hadN; rw [hge, hg, barF_names hk]
  have hbad : msgN f { m with barred := m.barred ++ [m.fields[i].number] } = 8 := by
    unfold msgN
    rw [if_neg (by simp only [List.length_append, List.length_singleton]; omega), if_neg (by
      rw [List.any_append, m3]
      simp only [List.any_cons, List.any_nil, Bool.or_false, Bool.false_or, decide_eq_true_eq]
      have := hx.2.1
      omega)]
    have he : fieldN f { m with barred := m.barred ++ [m.fields[i].number] } i m.fields[i] = 8 := by
      unfold fieldN
      rw [if_neg (by simpa using hx.1), if_neg hx.2.1, if_pos (by simp)]
    rw [firstN_idx_at (k := i) hi (fun j hj hji => ?_) (by rw [he]; decide), he]
    refine field_keeps (m4 j hj) ?_
    have h2 := hx.2.2.2
    rw [List.any_eq_false] at h2
    have h3 := h2 m.fields[j] (by rw [List.mem_take_iff_getElem]; exact ⟨j, by omega, rfl⟩)
    simp only [beq_iff_eq] at h3 ⊢
    rw [beq_eq_false_iff_ne]
    exact fun e => h3 e.symm
  have hgm : ∀ j, (hj : j < g.msgs.length) → msgN g g.msgs[j] = if j = k then 8 else 0 := by
    intro j hj
    rw [show msgN g g.msgs[j] = msgN f g.msgs[j] from by subst hg; exact msg_bar hk _]
    subst hg
    simp only [barF, List.getElem_set]
    by_cases e : k = j
    · subst e
      rw [if_pos rfl, if_pos rfl]; exact hbad
    · rw [if_neg e, if_neg (fun e2 => e e2.symm)]
      exact w3 _ (List.getElem_mem _)
  rw [← hg]
  unfold wrongN
  rw [if_neg (by rw [hgl, hge]; exact w1), hhad, if_neg (by rw [w2]; decide)]
  have hf : firstAt 0 (g.msgs.map (msgN g)) = (8, 0 + k) := by
    rw [firstAt_map_at (k := k) (by omega) (fun j hj hjk => by rw [hgm j hj, if_neg (by omega)]) (by rw [hgm k (by omega), if_pos rfl]; decide), hgm k (by omega), if_pos rfl]
  rw [hf, if_pos (show (8 : Int) ≠ 0 by decide), Nat.zero_add]
end Go.Proofs.YtplgegffapikoabDoor
