/-
  What a right file has, in plain Lean.
-/
import Derived.Test.YtplgegffapikoaaWrongPlain
import Derived.Test.YtplgegffapikoaaPressSpec
set_option linter.unusedVariables false
namespace Go.Proofs.Ytplgegffapikoaa
open Go.RowKit
theorem firstAt_zero : ∀ (l : List Int) (i : Nat), (firstAt i l).1 = 0 → firstAt i l = (0, 0) ∧ ∀ x ∈ l, x = 0
  | [], _, _ => ⟨rfl, fun x hx => by simp at hx⟩
  | a :: l, i, h => by
    by_cases ha : a = 0
    · rw [firstAt, if_neg (by simpa using ha)] at h ⊢
      have ih := firstAt_zero l (i + 1) h
      exact ⟨ih.1, fun x hx => (List.mem_cons.1 hx).elim (fun e => e.trans ha) (ih.2 x)⟩
    · rw [firstAt, if_pos ha] at h
      exact absurd h ha
theorem firstN_zero : ∀ (l : List Int), firstN l = 0 → ∀ x ∈ l, x = 0
  | [], _ => fun x hx => by simp at hx
  | a :: l, h => by
    by_cases ha : a = 0
    · rw [firstN, if_neg (by simpa using ha)] at h
      exact fun x hx => (List.mem_cons.1 hx).elim (fun e => e.trans ha) (firstN_zero l h x)
    · rw [firstN, if_pos ha] at h
      exact absurd h ha
theorem wrongN_ok {f : Fil} (h : (wrongN f).1 = 0) : wrongN f = (0, 0) ∧ f.msgs.length + f.enums.length ≤ 10 ∧ namesOk f ∧ (∀ m ∈ f.msgs, msgN f m = 0) ∧ ∀ e ∈ f.enums, itemsN e.items = 0 := by
  unfold wrongN at h ⊢
  by_cases h1 : 10 < f.msgs.length + f.enums.length
  · rw [if_pos h1] at h; exact absurd h (by decide)
  rw [if_neg h1] at h ⊢
  by_cases h2 : (firstAt 0 ((hadN f).mapIdx (nameN (hadN f)))).1 ≠ 0
  · rw [if_pos h2] at h; exact absurd h h2
  rw [if_neg h2] at h ⊢
  by_cases h3 : (firstAt 0 (f.msgs.map (msgN f))).1 ≠ 0
  · rw [if_pos h3] at h; exact absurd h h3
  rw [if_neg h3] at h ⊢
  have e1 := firstAt_zero _ _ (Decidable.not_not.1 h2)
  have e2 := firstAt_zero _ _ (Decidable.not_not.1 h3)
  have e3 := firstAt_zero _ _ h
  refine ⟨e3.1, by omega, fun j hj => e1.2 _ ?_, fun m hm => e2.2 _ (List.mem_map.2 ⟨m, hm, rfl⟩), fun e he => e3.2 _ (List.mem_map.2 ⟨e, he, rfl⟩)⟩
  exact List.mem_iff_getElem.2 ⟨j, by simpa using hj, by simp⟩
theorem msgN_ok {f : Fil} {m : Msg} (h : msgN f m = 0) : m.fields.length ≤ 16 ∧ m.barred.length ≤ 16 ∧ (∀ n ∈ m.barred, 0 ≤ n ∧ n < 536870912) ∧ ∀ i, (hi : i < m.fields.length) → fieldN f m i m.fields[i] = 0 := by
  unfold msgN at h
  by_cases h1 : 16 < m.fields.length ∨ 16 < m.barred.length
  · rw [if_pos h1] at h; exact absurd h (by decide)
  rw [if_neg h1] at h
  by_cases h2 : m.barred.any (fun n => decide (n < 0 ∨ 536870912 ≤ n)) = true
  · rw [if_pos h2] at h; exact absurd h (by decide)
  rw [if_neg h2] at h
  have e := firstN_zero _ h
  refine ⟨by omega, by omega, fun n hn => ?_, fun i hi => e _ (List.mem_iff_getElem.2 ⟨i, by simpa using hi, by simp⟩)⟩
  have h3 : ¬ decide (n < 0 ∨ 536870912 ≤ n) = true := fun h => h2 (List.any_eq_true.2 ⟨n, hn, h⟩)
  have h4 : ¬ (n < 0 ∨ 536870912 ≤ n) := fun h => h3 (decide_eq_true h)
  omega
theorem typedN_ok {f : Fil} {x : Fld} (h : typedN f x = 0) : 1 ≤ x.kind ∧ x.kind ≤ 10 ∧ (x.kind = 10 → 0 ≤ idxP (fun m => m.name == x.type) f.msgs) ∧ (x.kind = 5 → 0 ≤ idxP (fun m => m.name == x.type) f.enums) ∧ (x.kind ≠ 10 → x.kind ≠ 5 → x.type = []) ∧ ¬ (0 < x.choice ∧ x.many = true) := by
  unfold typedN at h
  by_cases h1 : x.kind < 1 ∨ 10 < x.kind
  · rw [if_pos h1] at h; exact absurd h (by decide)
  rw [if_neg h1] at h
  by_cases h2 : (x.kind = 10 ∧ idxP (fun m => m.name == x.type) f.msgs < 0) ∨ (x.kind = 5 ∧ idxP (fun m => m.name == x.type) f.enums < 0)
  · rw [if_pos h2] at h; exact absurd h (by decide)
  rw [if_neg h2] at h
  by_cases h3 : (x.kind ≠ 10 ∧ x.kind ≠ 5 ∧ x.type ≠ []) ∨ (0 < x.choice ∧ x.many = true)
  · rw [if_pos h3] at h; exact absurd h (by decide)
  refine ⟨by omega, by omega, fun h => ?_, fun h => ?_, fun h5 h6 => ?_, fun h => h3 (.inr h)⟩
  · by_cases h4 : 0 ≤ idxP (fun m => m.name == x.type) f.msgs
    · exact h4
    · exact absurd (.inl ⟨h, by omega⟩) h2
  · by_cases h4 : 0 ≤ idxP (fun m => m.name == x.type) f.enums
    · exact h4
    · exact absurd (.inr ⟨h, by omega⟩) h2
  · exact Decidable.not_not.1 fun h7 => h3 (.inl ⟨h5, h6, h7⟩)
theorem fieldN_ok {f : Fil} {m : Msg} {i : Nat} {x : Fld} (h : fieldN f m i x = 0) : 1 ≤ x.number ∧ x.number < 536870912 ∧ (∀ n ∈ m.barred, n ≠ x.number) ∧ (∀ y ∈ m.fields.take i, y.number ≠ x.number) ∧ typedN f x = 0 := by
  unfold fieldN at h
  by_cases h1 : (!named x.name || (m.fields.take i).any (fun y => x.name == y.name)) = true
  · rw [if_pos h1] at h; exact absurd h (by decide)
  rw [if_neg h1] at h
  by_cases h2 : x.number < 1 ∨ 536870912 ≤ x.number ∨ (19000 ≤ x.number ∧ x.number < 20000)
  · rw [if_pos h2] at h; exact absurd h (by decide)
  rw [if_neg h2] at h
  by_cases h3 : (m.barred.any (fun n => x.number == n) || (m.fields.take i).any (fun y => x.number == y.number)) = true
  · rw [if_pos h3] at h; exact absurd h (by decide)
  rw [if_neg h3] at h
  by_cases h4 : typedN f x ≠ 0
  · rw [if_pos h4] at h; exact absurd h h4
  refine ⟨by omega, by omega, fun n hn e => h3 ?_, fun y hy e => h3 ?_, Decidable.not_not.1 h4⟩
  · rw [Bool.or_eq_true]; exact .inl (List.any_eq_true.2 ⟨n, hn, by simp [e]⟩)
  · rw [Bool.or_eq_true]; exact .inr (List.any_eq_true.2 ⟨y, hy, by simp [e]⟩)
/-- What a right step has. -/
structure StepOk (n : Nat) (s : Stp) : Prop where
  kind : 1 ≤ s.kind ∧ s.kind ≤ 4
  field : 1 ≤ s.field ∧ s.field ≤ 10
  number : 1 ≤ s.number ∧ s.number < 536870912
  how : s.how = howN s.field
  sized : s.kind ≤ 2 ↔ s.how ≠ 2
  sub : s.kind = 4 ↔ s.field = 10
  next : if s.kind = 4 then 0 ≤ s.next ∧ s.next < n else s.next = -1
def PrgOk (n : Nat) (p : List Stp) : Prop := p.length ≤ 16 ∧ (∀ s ∈ p, StepOk n s) ∧ ∀ k, (h : k + 1 < p.length) → p[k].number < p[k + 1].number
theorem step_ok {f : Fil} {x : Fld} (h1 : 1 ≤ x.number) (h2 : x.number < 536870912) (ht : typedN f x = 0) : StepOk f.msgs.length (stepX f x) := by
  obtain ⟨k1, k2, k3, _, _, _⟩ := typedN_ok ht
  have hk : (x.kind = 10 ∧ howN x.kind = 2) ∨ (x.kind ≠ 10 ∧ howN x.kind = 2) ∨ (x.kind ≠ 10 ∧ howN x.kind ≠ 2) := by
    by_cases h : x.kind = 10
    · exact .inl ⟨h, by rw [h]; rfl⟩
    · by_cases h' : howN x.kind = 2
      · exact .inr (.inl ⟨h, h'⟩)
      · exact .inr (.inr ⟨h, h'⟩)
  rcases hk with ⟨e1, e2⟩ | ⟨e1, e2⟩ | ⟨e1, e2⟩
  · obtain ⟨k, hk, e3, _⟩ := idxP_find _ _ (k3 e1)
    have e : stepX f x = ⟨4, x.number, howN x.kind, x.kind, (k : Int)⟩ := by simp [stepX, e1, e3]
    rw [e]
    exact ⟨by simp, ⟨k1, k2⟩, ⟨h1, h2⟩, rfl, by simp [e2], by simp [e1], by rw [if_pos rfl]; simp only; omega⟩
  · have e : stepX f x = ⟨3, x.number, howN x.kind, x.kind, -1⟩ := by simp [stepX, e1, e2]
    rw [e]
    exact ⟨by simp, ⟨k1, k2⟩, ⟨h1, h2⟩, rfl, by simp [e2], by simp [e1], by simp⟩
  · cases hm : x.many
    · have e : stepX f x = ⟨1, x.number, howN x.kind, x.kind, -1⟩ := by simp [stepX, e1, e2, hm]
      rw [e]
      exact ⟨by simp, ⟨k1, k2⟩, ⟨h1, h2⟩, rfl, by simp [e2], by simp [e1], by simp⟩
    · have e : stepX f x = ⟨2, x.number, howN x.kind, x.kind, -1⟩ := by simp [stepX, e1, e2, hm]
      rw [e]
      exact ⟨by simp, ⟨k1, k2⟩, ⟨h1, h2⟩, rfl, by simp [e2], by simp [e1], by simp⟩
end Go.Proofs.Ytplgegffapikoaa
