/-
  The walks of package wire's numbers: Put.
-/
import Derived.Test.YtplgegffapikoaaProg
import Derived.Test.YtplgegffapikoaaBase
import Derived.Lib.Varint
import Derived.Outline
namespace Go.Proofs.Ytplgegffapikoaa
open Go.RowKit

theorem eU8 : Elem Try.prog 23 5 1 1 (.int .u8 0) := ⟨Try.underlying23, info_parts (by kernel_rfl), rfl, by decide⟩

theorem toNat_toUInt8 {n : Nat} (h : n < 256) : n.toUInt8.toNat = n := by
  simp only [Nat.toUInt8_eq, UInt8.toNat_ofNat']
  omega
theorem put_byte (z : Nat) : Value.int .u8 (bits .or .u8 ((z : Int) % 256) 128) = .int .u8 (((z % 128 + 128).toUInt8.toNat : Nat) : Int) := by
  rw [Lib.u8_or128_any _ (by omega) (by omega), toNat_toUInt8 (by omega)]
  congr 1; omega
theorem put_last (z : Nat) (h : z < 128) : Value.int .u8 (z : Int) = .int .u8 ((z.toUInt8.toNat : Nat) : Int) := by
  rw [toNat_toUInt8 (by omega)]

set_option maxRecDepth 100000 in
set_option maxHeartbeats 400000 in
/-- Put(b, n), b nil or a row of the call's own. -/
theorem put_own (base : Nat) (v : Value) (l : List UInt8) (x : Nat) (w : World) (hx : x < 2 ^ 64) (hl : l.length ≤ 1099511627776)
    (hown : w.ownsRow base 5 1 v l.length (B8 l)) (hb : base ≤ w.heap.size) :
    Calls Try.prog 11 #[v, .int .u64 x] w fun e w' => ∃ v', e = .returned v' ∧ w'.ownsRow base 5 1 v' (l ++ Lib.uvarint x).length (B8 (l ++ Lib.uvarint x)) ∧ Evo w w' v v' := by
  have Hx := Lib.hid hx; clear hx
  go_enter Try.func11, Try.ntmps11
  go_wp2_with fail
  go_loopw [0, 1] (fun s y wr => ∃ (d : List UInt8) (z : Nat), z < 2 ^ 64 ∧ y = .int .u64 z ∧ d ++ Lib.uvarint z = Lib.uvarint x ∧ wr.ownsRow base 5 1 s (l ++ d).length (B8 (l ++ d)) ∧ Evo w wr v s)
    (fun _ y _ => (intOf y).toNat)
  case atStart => exact ⟨[], x, Hx.out, rfl, rfl, by simpa using hown, Evo.refl _ _⟩
  case round =>
    obtain ⟨d, z, hz, rfl, hd, how, hev⟩ := hrel
    have hdl : (l ++ d).length ≤ 1099511627776 + 10 := by
      have h1 := congrArg List.length hd
      have h2 := Lib.uvarint_length64 Hx.out
      simp only [List.length_append] at h1 ⊢
      omega
    have hsz : base ≤ wr.heap.size := by have := hev.grown.size; omega
    have Hz := Lib.hid hz; clear hz
    have Hd := Lib.hid hd; clear hd
    have Hev := Lib.hid hev; clear hev
    by_cases h128 : 128 ≤ z
    · go_wp2_with (at_builtin; go_loud (refine wpList_app_one eU8 wr rfl _ _ rfl base _ _ _ rfl how rfl rfl (by intro u hu; simp at hu; subst hu; rfl) (by omega) (by unfold maxLen; omega) (by omega) ?_); intro v1 w1 how1 (hev1 : Evo wr w1 u0 v1))
      go_roundw
      case rel =>
        refine ⟨d ++ [(z % 128 + 128).toUInt8], z / 128, by have := Hz.out; omega, rfl, ?_, ?_, Hev.out.trans hev1⟩
        · rw [← Hd.out, Lib.uvarint_big h128]; simp
        · rw [put_byte] at how1
          simpa [B8, ← List.append_assoc, Nat.add_assoc] using how1
      case measure => simp [intOf]; omega
    · go_wp2_with (at_builtin; go_loud (refine wpList_app_one eU8 wr rfl _ _ rfl base _ _ _ rfl how rfl rfl (by intro u hu; simp at hu; subst hu; rfl) (by omega) (by unfold maxLen; omega) (by omega) ?_); intro v1 w1 how1 (hev1 : Evo wr w1 u0 v1))
      go_ret
      refine ⟨v1, rfl, ?_, Hev.out.trans hev1⟩
      rw [← Hd.out, Lib.uvarint_small (by omega)]
      rw [put_last z (by omega)] at how1
      simpa [B8, ← List.append_assoc, Nat.add_assoc] using how1
end Go.Proofs.Ytplgegffapikoaa
