/-
  Package wire in plain Lean: records come back; one behind the other.
-/
import Derived.Test.YtplgegffapikoaaPlainWire2
import Derived.Test.YtplgegffapikoaaBase3
namespace Go.Proofs.Ytplgegffapikoaa
open Go.Lib

theorem getF_append : ∀ (l m : List UInt8) (i n : Nat), (getF i n l).2.2 = 0 → getF i n (l ++ m) = getF i n l
  | [], m, i, n, h => by simp [getF] at h
  | c :: r, m, i, n, h => by
    rw [List.cons_append, getF, getF]
    rw [getF] at h
    by_cases h9 : i = 9 ∧ 1 < c.toNat
    · rw [if_pos h9] at h; simp at h
    · rw [if_neg h9] at h ⊢
      rw [if_neg h9]
      by_cases h1 : c.toNat < 128
      · rw [if_pos h1, if_pos h1]
      · rw [if_neg h1] at h ⊢
        rw [if_neg h1]
        exact getF_append r m _ _ h
theorem get_append {l : List UInt8} (m : List UInt8) (h : (get l).2.2 = 0) : get (l ++ m) = get l := getF_append l m 0 0 h
theorem numB_append {k : Nat} {l : List UInt8} (m : List UInt8) (h : (numB k l).2 = 0) : numB k (l ++ m) = numB k l := by
  unfold numB at *
  by_cases hl : l.length < k
  · rw [if_pos hl] at h; simp at h
  · rw [if_neg hl, if_neg (by rw [List.length_append]; omega), List.take_append_of_le_length (by omega)]
theorem oneP_append {l : List UInt8} (m : List UInt8) (h : (oneP l).1 = 0) : oneP (l ++ m) = oneP l := by
  revert h
  have hg := @get_append l m
  have hgo := @get_ok l
  unfold oneP
  simp only
  by_cases he : (get l).2.2 = 0
  · rw [hg he]
    obtain ⟨k1, k2, k3, k4⟩ := hgo he
    have he' : ¬ (get l).2.2 ≠ 0 := by simpa using he
    have hd : (l ++ m).drop (get l).2.1 = l.drop (get l).2.1 ++ m := List.drop_append_of_le_length k2
    rw [hd]
    simp only [if_neg he']
    by_cases hn : (get l).1 / 8 < 1 ∨ 536870912 ≤ (get l).1 / 8
    · simp only [if_pos hn]; intros; trivial
    · simp only [if_neg hn]
      by_cases h0 : (get l).1 % 8 = 0
      · simp only [if_pos h0]
        by_cases h1 : (get (l.drop (get l).2.1)).2.2 = 0
        · rw [get_append m h1]; intros; rfl
        · rw [if_pos h1]; intro h; exact absurd h h1
      · simp only [if_neg h0]
        by_cases h8 : (get l).1 % 8 = 1
        · simp only [if_pos h8]
          by_cases h1 : (numB 8 (l.drop (get l).2.1)).2 = 0
          · rw [numB_append m h1]; intros; rfl
          · rw [if_pos h1]; intro h; exact absurd h h1
        · simp only [if_neg h8]
          by_cases h5 : (get l).1 % 8 = 5
          · simp only [if_pos h5]
            by_cases h1 : (numB 4 (l.drop (get l).2.1)).2 = 0
            · rw [numB_append m h1]; intros; rfl
            · rw [if_pos h1]; intro h; exact absurd h h1
          · simp only [if_neg h5]
            by_cases h2 : (get l).1 % 8 = 2
            · simp only [if_pos h2]
              by_cases h1 : (get (l.drop (get l).2.1)).2.2 = 0
              · have hg2 := get_ok h1
                have h1' : ¬ (get (l.drop (get l).2.1)).2.2 ≠ 0 := by simpa using h1
                rw [get_append m h1]
                simp only [if_neg h1']
                by_cases hx : (l.drop (get l).2.1).length - (get (l.drop (get l).2.1)).2.1 < (get (l.drop (get l).2.1)).1
                · rw [if_pos hx]; intro h; simp at h
                · rw [if_neg hx, if_neg (by rw [List.length_append]; omega)]
                  intros
                  rw [List.drop_append_of_le_length hg2.2.1, List.take_append_of_le_length (by rw [List.length_drop]; omega)]
              · rw [if_pos h1]; intro h; exact absurd h h1
            · simp only [if_neg h2]; intros; trivial
  · rw [if_pos he]; intro h; exact absurd h he
theorem parseG_fuel : ∀ (f g : Nat) (l : List UInt8), l.length < f → l.length < g → parseG f l = parseG g l
  | 0, _, _, h, _ => by omega
  | _, 0, _, _, h => by omega
  | f + 1, g + 1, l, h1, h2 => by
    rw [parseG, parseG]
    by_cases hl : l = []
    · rw [if_pos hl, if_pos hl]
    · rw [if_neg hl, if_neg hl]
      by_cases ho : (oneP l).1 = 0
      · have hk := oneP_ok ho
        have ho' : ¬ (oneP l).1 ≠ 0 := by simpa using ho
        simp only [if_neg ho']
        rw [parseG_fuel f g (l.drop (oneP l).2.2) (by rw [List.length_drop]; omega) (by rw [List.length_drop]; omega)]
      · rw [if_pos ho, if_pos ho]
/-- What comes of records, and of the rest behind them. -/
theorem parseG_append : ∀ (f : Nat) (a b : List UInt8), a.length < f → (parseG f a).2.1 = 0 → parseG (f + b.length) (a ++ b) = parseC a.length (parseG f a).1 (parseG (b.length + 1) b)
  | 0, _, _, h, _ => by omega
  | f + 1, a, b, hf, he => by
    by_cases ha : a = []
    · subst ha
      have e : parseG (f + 1) [] = ([], 0, 0) := by rw [parseG, if_pos rfl]
      rw [e, List.nil_append]
      simp only [List.length_nil]
      rw [parseC_start, parseG_fuel _ (b.length + 1) b (by omega) (by omega)]
    · rw [parseG, if_neg ha] at he
      by_cases ho : (oneP a).1 = 0
      · have hk := oneP_ok ho
        rw [if_neg (by simpa using ho)] at he
        simp only at he
        have hp : (parseG f (a.drop (oneP a).2.2)).2.1 = 0 := by
          by_cases h : (parseG f (a.drop (oneP a).2.2)).2.1 = 0
          · exact h
          · rw [if_pos h] at he; exact absurd he h
        have ih := parseG_append f (a.drop (oneP a).2.2) b (by rw [List.length_drop]; omega) hp
        have e1 : parseG (f + 1) a = ((oneP a).2.1 :: (parseG f (a.drop (oneP a).2.2)).1, 0, 0) := by
          rw [parseG, if_neg ha, if_neg (by simpa using ho)]
          simp only
          rw [if_neg (by simpa using hp)]
        have e2 : f + 1 + b.length = (f + b.length) + 1 := by omega
        rw [e1, e2, parseG, if_neg (by simp [ha]), oneP_append b ho, if_neg (by simpa using ho), List.drop_append_of_le_length hk.2.1]
        simp only
        rw [ih]
        simp only [List.length_drop]
        unfold parseC
        by_cases hq : (parseG (b.length + 1) b).2.1 = 0
        · have hq' : ¬ (parseG (b.length + 1) b).2.1 ≠ 0 := by simpa using hq
          simp only [if_neg hq']
          simp
        · simp only [if_pos hq]
          have e : (oneP a).2.2 + (a.length - (oneP a).2.2 + (parseG (b.length + 1) b).2.2) = a.length + (parseG (b.length + 1) b).2.2 := by omega
          rw [e]
      · rw [if_pos ho] at he; exact absurd he ho
theorem parse_append {a b : List UInt8} (h : (parse a).2.1 = 0) (hl : a.length + b.length ≤ 4000) : parse (a ++ b) = parseC a.length (parse a).1 (parse b) := by
  unfold parse at *
  rw [if_neg (by omega)] at h
  rw [if_neg (by rw [List.length_append]; omega), if_neg (by omega), if_neg (by omega), ← parseG_append (a.length + 1) a b (by omega) h]
  rw [List.length_append]
  congr 1
  omega
end Go.Proofs.Ytplgegffapikoaa
