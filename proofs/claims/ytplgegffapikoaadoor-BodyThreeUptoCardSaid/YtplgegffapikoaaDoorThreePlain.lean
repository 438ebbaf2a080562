/-
  Three bodies put together, in plain Lean, with what is wrong.
-/
import Derived.Test.YtplgegffapikoaaDoorJoinLaw4
import Derived.Test.YtplgegffapikoaaDoorMixedP
set_option linter.unusedVariables false
namespace Go.Proofs.YtplgegffapikoaaDoor
open Go.RowKit
theorem joinA_ok {f : Fil} {msg : Int} {a b : Bod} (h : (joinA f msg a b).2 = 0) : wrongA f msg a = 0 ∧ wrongA f msg b = 0 ∧ wrongA f msg (joinB f 12 msg a b) = 0 ∧ joinA f msg a b = (joinB f 12 msg a b, 0) := by
  unfold joinA at h ⊢
  by_cases h1 : wrongA f msg a = 0
  · rw [if_neg (by simpa using h1)] at h ⊢
    by_cases h2 : wrongA f msg b = 0
    · rw [if_neg (by simpa using h2)] at h ⊢
      by_cases h3 : wrongA f msg (joinB f 12 msg a b) = 0
      · rw [if_neg (by simpa using h3)] at h ⊢
        exact ⟨h1, h2, h3, rfl⟩
      · rw [if_pos h3] at h; exact absurd h h3
    · rw [if_pos h2] at h; exact absurd h h2
  · rw [if_pos h1] at h; exact absurd h h1
theorem joinA_eq {f : Fil} {msg : Int} {a b : Bod} (h1 : wrongA f msg a = 0) (h2 : wrongA f msg b = 0) (h3 : wrongA f msg (joinB f 12 msg a b) = 0) : joinA f msg a b = (joinB f 12 msg a b, 0) := by
  unfold joinA
  rw [if_neg (by simpa using h1), if_neg (by simpa using h2), if_neg (by simpa using h3)]
theorem wrongA_is {f : Fil} {msg : Int} (hr : (wrongN f).1 = 0) (h0 : 0 ≤ msg) (h1 : msg < f.msgs.length) (x : Bod) : wrongA f msg x = wrongB f 12 msg x := by
  unfold wrongA
  rw [if_neg (by simpa using hr), if_neg (by omega)]
theorem joinA_05 {f : Fil} {msg : Int} {a b : Bod} (h1 : wrongA f msg a = 0) (h2 : wrongA f msg b = 0) : (joinA f msg a b).2 = 0 ∨ (joinA f msg a b).2 = 5 := by
  obtain ⟨hr, g0, g1, ha⟩ := wrongA_zero h1
  obtain ⟨_, _, _, hb⟩ := wrongA_zero h2
  unfold joinA
  rw [if_neg (by simpa using h1), if_neg (by simpa using h2), wrongA_is hr g0 g1]
  rcases join_05 hr 12 msg a b ha hb with h | h
  · rw [if_neg (by simpa using h)]; exact .inl rfl
  · rw [if_pos (by rw [h]; decide)]; exact .inr h
theorem joinA_nil {f : Fil} {msg : Int} {a : Bod} (h : wrongA f msg a = 0) : joinA f msg a bod0 = (a, 0) ∧ joinA f msg bod0 a = (a, 0) := by
  obtain ⟨hr, g0, g1, ha⟩ := wrongA_zero h
  obtain ⟨k', m, e, hm, _⟩ := wrongB_zero ha
  have h0 : wrongA f msg bod0 = 0 := by rw [wrongA_is hr g0 g1]; exact nil_right (k := 11) hm
  have e1 := join_nil ha
  have e2 := nil_join hr ha
  refine ⟨?_, ?_⟩
  · rw [joinA_eq h h0 (by rw [e1]; exact h), e1]
  · rw [joinA_eq h0 h (by rw [e2]; exact h), e2]
theorem joinA_unk {f : Fil} {msg : Int} {a b : Bod} {N : Nat} (h : (joinA f msg a b).2 = 0) (na : UnkLe N 12 a) (nb : UnkLe N 12 b) : UnkLe (2 * N) 12 (joinA f msg a b).1 := by
  obtain ⟨h1, h2, h3, e⟩ := joinA_ok h
  obtain ⟨hr, g0, g1, ha⟩ := wrongA_zero h1
  obtain ⟨_, _, _, hb⟩ := wrongA_zero h2
  rw [e]
  exact unk_join hr 12 msg a b ha hb na nb
/-- Of three bodies it is no matter which two are put together first. -/
theorem joinA_three {f : Fil} {msg : Int} {a b c : Bod} (hx : (joinA f msg a b).2 = 0) (hy : (joinA f msg b c).2 = 0) (hmx : mixedN f = false) :
    ((joinA f msg (joinA f msg a b).1 c).2 = 0 ∨ (joinA f msg (joinA f msg a b).1 c).2 = 5) ∧ ((joinA f msg a (joinA f msg b c).1).2 = 0 ∨ (joinA f msg a (joinA f msg b c).1).2 = 5) ∧
      ((joinA f msg (joinA f msg a b).1 c).2 = 0 → (joinA f msg a (joinA f msg b c).1).2 = 0 → (joinA f msg (joinA f msg a b).1 c).1 = (joinA f msg a (joinA f msg b c).1).1) := by
  obtain ⟨wa, wb, wx, ex⟩ := joinA_ok hx
  obtain ⟨_, wc, wy, ey⟩ := joinA_ok hy
  rw [ex, ey]
  simp only
  refine ⟨joinA_05 wx wc, joinA_05 wa wy, fun h1 h2 => ?_⟩
  obtain ⟨_, _, _, e1⟩ := joinA_ok h1
  obtain ⟨_, _, _, e2⟩ := joinA_ok h2
  rw [e1, e2]
  simp only
  obtain ⟨hr, g0, g1, ha⟩ := wrongA_zero wa
  have hnm : ∀ m ∈ f.msgs, ∀ x ∈ m.fields, x.kind = 10 → x.choice ≤ 0 := fun m hm x hxm hk => by
    unfold mixedN at hmx
    have h3 := List.any_eq_false.1 hmx m hm
    have h4 : mixedF x = false := by
      cases e : mixedF x with
      | false => rfl
      | true => exact absurd (List.any_eq_true.2 ⟨x, hxm, e⟩) h3
    unfold mixedF at h4
    rw [hk] at h4
    have : ¬ 0 < x.choice := by simpa using h4
    omega
  exact join_assoc hr hnm 12 msg a b c ha (wrongA_zero wb).2.2.2 (wrongA_zero wc).2.2.2 (wrongA_zero wx).2.2.2 (wrongA_zero wy).2.2.2
theorem unk_nil (N k : Nat) : UnkLe N k bod0 := by
  cases k with
  | zero => exact Nat.zero_le _
  | succ k => exact ⟨Nat.zero_le _, fun v hv => by cases hv⟩
end Go.Proofs.YtplgegffapikoaaDoor
