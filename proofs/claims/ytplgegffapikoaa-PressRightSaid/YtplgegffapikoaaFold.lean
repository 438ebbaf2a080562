/-
  Package wire: Fold, Open, Wrong, Tag.
-/
import Derived.Test.YtplgegffapikoaaProg
import Derived.Test.YtplgegffapikoaaBase
import Derived.Test.YtplgegffapikoaaPlainWire
import Derived.Test.YtplgegffapikoaaWire1
import Derived.Outline
namespace Go.Proofs.Ytplgegffapikoaa
open Go.RowKit

set_option maxRecDepth 100000 in
set_option maxHeartbeats 400000 in
theorem fold_any (n : Int) (w : World) (h0 : -9223372036854775808 ≤ n) (h1 : n ≤ 9223372036854775807) :
    Calls Try.prog 14 #[.int .i64 n] w fun e w' => e = .returned (.int .u64 (Lib.zigzag n : Int)) ∧ w' = w := by
  have H0 := Lib.hid h0; have H1 := Lib.hid h1; clear h0 h1
  go_enter Try.func14, Try.ntmps14
  go_wp2_with fail
  go_ret
  exact ⟨by rw [← fold_bits n H0.out H1.out]; rfl, rfl⟩

set_option maxRecDepth 100000 in
set_option maxHeartbeats 400000 in
theorem wrongRec_any (r : Rec) (vb : Value) (w : World) (hv : RdB All w vb r.bytes) :
    Calls Try.prog 36 #[.agg #[.int .i64 r.number, .int .i64 r.how, .int .u64 r.bits, vb]] w fun e w' => e = .returned (.int .i64 (wrongRec r)) ∧ Up w w' := by
  obtain ⟨ao, cap, rfl, hc1, hc2⟩ := hv.val
  clear hv
  obtain ⟨number, how, bits, bytes⟩ := r
  simp only at *
  by_cases h4 : how = 0 ∨ how = 1 ∨ how = 5 ∨ how = 2
  · have hx : (how = 2 ∧ 4000 < bytes.length) ∨ (¬ (how = 2 ∧ 4000 < bytes.length) ∧ number < 1) ∨ (¬ (how = 2 ∧ 4000 < bytes.length) ∧ 536870912 ≤ number) ∨ (¬ (how = 2 ∧ 4000 < bytes.length) ∧ 1 ≤ number ∧ number < 536870912) := by omega
    rcases hx with ⟨rfl, hl⟩ | ⟨hl, hn⟩ | ⟨hl, hn⟩ | ⟨hl, hn, hn2⟩
    · go_enter Try.func36, Try.ntmps36
      go_wp2_with fail
      all_goals (go_ret; refine ⟨ret_int ?_, (Up.refl _).alloc _⟩; first | (simp [wrongRec]; done) | (simp [wrongRec]; omega))
    · rcases h4 with rfl | rfl | rfl | rfl
      all_goals try have hl : ¬ 4000 < bytes.length := by omega
      all_goals
      go_enter Try.func36, Try.ntmps36
      go_wp2_with fail
      all_goals (go_ret; refine ⟨ret_int ?_, (Up.refl _).alloc _⟩; first | (simp [wrongRec]; done) | (simp [wrongRec]; omega))
    · rcases h4 with rfl | rfl | rfl | rfl
      all_goals try have hl : ¬ 4000 < bytes.length := by omega
      all_goals
      go_enter Try.func36, Try.ntmps36
      go_wp2_with fail
      all_goals (go_ret; refine ⟨ret_int ?_, (Up.refl _).alloc _⟩; first | (simp [wrongRec]; done) | (simp [wrongRec]; omega))
    · rcases h4 with rfl | rfl | rfl | rfl
      all_goals try have hl : ¬ 4000 < bytes.length := by omega
      all_goals
      go_enter Try.func36, Try.ntmps36
      go_wp2_with fail
      all_goals (go_ret; refine ⟨ret_int ?_, (Up.refl _).alloc _⟩; first | (simp [wrongRec]; done) | (simp [wrongRec]; omega))
  · have g0 : (how == 0) = false := by rw [beq_eq_false_iff_ne]; omega
    have g1 : (how == 1) = false := by rw [beq_eq_false_iff_ne]; omega
    have g2 : (how == 2) = false := by rw [beq_eq_false_iff_ne]; omega
    have g5 : (how == 5) = false := by rw [beq_eq_false_iff_ne]; omega
    go_enter Try.func36, Try.ntmps36
    go_wp2_with fail
    go_ret
    refine ⟨ret_int ?_, (Up.refl _).alloc _⟩
    simp only [wrongRec]
    rw [if_neg h4]
end Go.Proofs.Ytplgegffapikoaa
