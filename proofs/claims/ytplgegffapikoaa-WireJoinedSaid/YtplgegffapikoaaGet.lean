/-
  Package wire: Get.
-/
import Derived.Test.YtplgegffapikoaaProg
import Derived.Test.YtplgegffapikoaaBase
import Derived.Test.YtplgegffapikoaaPlainWire
import Derived.Outline
namespace Go.Proofs.Ytplgegffapikoaa
open Go.RowKit

set_option maxRecDepth 100000 in
set_option maxHeartbeats 400000 in
theorem get_any (v : Value) (l : List UInt8) (w : World) (hv : RdB All w v l) :
    Calls Try.prog 12 #[v] w fun e w' => e = .returned (.tuple #[.int .u64 ((get l).1 : Int), .int .i64 ((get l).2.1 : Int), .int .i64 (get l).2.2]) ∧ w' = w := by
  obtain ⟨ao, cap, rfl, hc1, hc2⟩ := hv.val
  go_enter Try.func12, Try.ntmps12
  go_wp2_with fail
  go_loop [5, 10] (fun n i => ∃ k a : Nat, k ≤ l.length ∧ k ≤ 9 ∧ i = .int .i64 k ∧ n = .int .u64 a ∧ a < 2 ^ (7 * k) ∧ getF k a (l.drop k) = get l) (fun _ i => l.length - (intOf i).toNat)
  case atStart => exact ⟨0, 0, by omega, by omega, rfl, rfl, by simp, rfl⟩
  case round =>
    obtain ⟨k, a, hk, hk9, rfl, rfl, ha, hg⟩ := hrel
    by_cases hlt : k < l.length
    · obtain ⟨b, o, rfl, hcell⟩ := hv.cell hlt
      have hd : l.drop k = l[k] :: l.drop (k + 1) := List.drop_eq_getElem_cons hlt
      have hc256 : l[k].toNat < 256 := UInt8.toNat_lt _
      generalize l[k] = c at *
      rw [hd, getF] at hg
      by_cases h9 : k = 9 ∧ 1 < c.toNat
      · obtain ⟨rfl, h1⟩ := h9
        have Hg : Hid ((0, 0, 3) = get l) := by rw [← hg, if_pos ⟨rfl, h1⟩]; exact Lib.hid rfl
        clear hg hd ha
        go_wp2_with fail
        go_ret3
        rw [← Hg.out]
        exact ⟨rfl, rfl⟩
      · have hb := get_bits a k c.toNat ha hc256 hk9 (by omega)
        have hs := get_step a k c.toNat ha
        rw [if_neg h9] at hg
        have Hb := Lib.hid hb; clear hb
        have Hs := Lib.hid hs; clear hs
        have Hg := Lib.hid hg; clear hg
        have h91 : k = 9 → c.toNat ≤ 1 := by omega
        clear ha h9 hd
        by_cases h9 : k = 9
        · have h1 := h91 h9
          clear h91
          subst h9
          go_wp2_with fail
          go_ret3
          have hg := Hg.out
          rw [if_pos (by omega)] at hg
          have hb := Hb.out
          rw [← hg]
          simp only [Nat.reduceMul, Int.reducePow] at hb
          rw [hb]
          refine ⟨?_, rfl⟩
          rw [Nat.mod_eq_of_lt (by omega)]
          rfl
        · clear h91
          have h9b : ((k : Int) == 9) = false := by rw [beq_eq_false_iff_ne]; omega
          by_cases h128 : c.toNat < 128
          · go_wp2_with fail
            go_ret3
            have hg := Hg.out
            rw [if_pos h128] at hg
            rw [← hg, Hb.out]
            refine ⟨?_, rfl⟩
            rw [Nat.mod_eq_of_lt h128]
            rfl
          · go_wp2_with fail
            go_round
            case rel =>
              have hg := Hg.out
              rw [if_neg h128] at hg
              exact ⟨k + 1, _, by omega, by omega, by go_num, by rw [Hb.out], Hs.out, hg⟩
            case measure => simp [intOf]; omega
    · rw [List.drop_eq_nil_of_le (by omega), getF] at hg
      have Hg := Lib.hid hg; clear hg ha
      go_wp2_with fail
      go_ret3
      rw [← Hg.out]
      exact ⟨rfl, rfl⟩
theorem get_eq (v : Value) (l : List UInt8) (w : World) (x m : Nat) (e0 : Int) (h : get l = (x, m, e0)) (hv : RdB All w v l) :
    Calls Try.prog 12 #[v] w fun e w' => e = .returned (.tuple #[.int .u64 (x : Int), .int .i64 (m : Int), .int .i64 e0]) ∧ w' = w := by
  have := get_any v l w hv
  rw [h] at this
  exact this
end Go.Proofs.Ytplgegffapikoaa
