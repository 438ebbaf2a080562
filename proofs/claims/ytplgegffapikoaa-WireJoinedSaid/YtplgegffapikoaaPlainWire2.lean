/-
  Package wire in plain Lean: a number comes back.
-/
import Derived.Test.YtplgegffapikoaaPlainWire
namespace Go.Proofs.Ytplgegffapikoaa
open Go.Lib

theorem getF_put (m : List UInt8) : ∀ (f x i n : Nat), x < f → i ≤ 9 → x < 2 ^ (64 - 7 * i) → getF i n (uvarint x ++ m) = (n + x * 2 ^ (7 * i), i + (uvarint x).length, 0)
  | 0, _, _, _, h, _, _ => by omega
  | f + 1, x, i, n, hf, hi, hx => by
    by_cases h : x < 128
    · have hc : x.toUInt8.toNat = x := by simp only [Nat.toUInt8_eq, UInt8.toNat_ofNat']; omega
      rw [uvarint_small h, List.cons_append, getF, hc, if_neg ?_, if_pos h]
      · simp
      · rintro ⟨rfl, h1⟩
        have : x < 2 ^ (64 - 7 * 9) := hx
        omega
    · have hc : (x % 128 + 128).toUInt8.toNat = x % 128 + 128 := by simp only [Nat.toUInt8_eq, UInt8.toNat_ofNat']; omega
      have hi9 : i ≠ 9 := by
        rintro rfl
        have : x < 2 ^ (64 - 7 * 9) := hx
        omega
      rw [uvarint_big (by omega), List.cons_append, getF, hc, if_neg (by omega), if_neg (by omega), getF_put m f (x / 128) (i + 1) _ (by omega) (by omega) ?_]
      · have e : (x % 128 + 128) % 128 = x % 128 := by omega
        rw [e]
        have e2 : 2 ^ (7 * (i + 1)) = 128 * 2 ^ (7 * i) := by rw [show 7 * (i + 1) = 7 + 7 * i by omega, Nat.pow_add]
        rw [e2]
        have e3 : x / 128 * (128 * 2 ^ (7 * i)) = (x / 128 * 128) * 2 ^ (7 * i) := by rw [Nat.mul_assoc]
        rw [e3, Nat.add_assoc, ← Nat.add_mul]
        have e4 : x % 128 + x / 128 * 128 = x := by omega
        rw [e4]
        simp only [List.length_cons, Prod.mk.injEq, and_true, true_and]
        omega
      · have e : 64 - 7 * i = 7 + (64 - 7 * (i + 1)) := by omega
        rw [e, Nat.pow_add] at hx
        exact Nat.div_lt_of_lt_mul (by simpa using hx)
theorem get_put (x : Nat) (m : List UInt8) (hx : x < 2 ^ 64) : get (uvarint x ++ m) = (x, (uvarint x).length, 0) := by
  have := getF_put m (x + 1) x 0 0 (by omega) (by omega) (by simpa using hx)
  simpa using this
theorem uvarint_last : ∀ (f x : Nat), x < f → 1 < (uvarint x).length → (uvarint x).getLast? ≠ some 0
  | 0, _, h, _ => by omega
  | f + 1, x, hf, hl => by
    by_cases h : x < 128
    · rw [uvarint_small h] at hl; simp at hl
    · rw [uvarint_big (by omega)]
      by_cases h2 : x / 128 < 128
      · rw [uvarint_small h2]
        simp only [List.getLast?_cons_cons, List.getLast?_singleton, ne_eq, Option.some.injEq]
        intro e
        have := congrArg UInt8.toNat e
        simp only [Nat.toUInt8_eq, UInt8.toNat_ofNat'] at this
        have h0 : (0 : UInt8).toNat = 0 := rfl
        omega
      · have ih := uvarint_last f (x / 128) (by omega) (by rw [uvarint_big (by omega), List.length_cons]; have := uvarint_pos (x / 128 / 128); omega)
        rw [uvarint_big (x := x / 128) (by omega)] at ih ⊢
        rwa [List.getLast?_cons_cons]
theorem unzig_zigzag (s : Int) : unzig (zigzag s) = s := by
  unfold zigzag unzig
  split
  · rename_i h
    rw [if_pos (by omega)]; omega
  · rename_i h
    rw [if_neg (by omega)]; omega
theorem zigzag_unzig (n : Nat) : zigzag (unzig n) = n := by
  unfold zigzag unzig
  split
  · rw [if_pos (by omega)]; omega
  · rw [if_neg (by omega)]; omega
theorem zigzag_small {s : Int} (h0 : -64 ≤ s) (h1 : s < 64) : (uvarint (zigzag s)).length = 1 := by
  have h : zigzag s < 128 := by unfold zigzag; split <;> omega
  rw [uvarint_small h]; rfl
theorem unzig_range {n : Nat} (h : n < 2 ^ 64) : -9223372036854775808 ≤ unzig n ∧ unzig n ≤ 9223372036854775807 := by
  unfold unzig; split <;> omega
end Go.Proofs.Ytplgegffapikoaa
