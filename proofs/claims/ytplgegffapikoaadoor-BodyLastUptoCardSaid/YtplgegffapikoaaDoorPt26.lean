/-
  wire.Wrong.
-/
import Derived.Test.YtplgegffapikoaaDoorProg
import Derived.Test.YtplgegffapikoaaDoorPt03
import Derived.Test.YtplgegffapikoaaDoorPt01
import Derived.Outline
namespace Go.Proofs.YtplgegffapikoaaDoor
open Go.RowKit

set_option maxRecDepth 100000 in
set_option maxHeartbeats 400000 in
theorem wrongRec_any (r : Rec) (vb : Value) (w : World) (hv : RdB All w vb r.bytes) :
    Calls Tryd.prog 49 #[.agg #[.int .i64 r.number, .int .i64 r.how, .int .u64 r.bits, vb]] w fun e w' => e = .returned (.int .i64 (wrongRec r)) ∧ Up w w' := by
  obtain ⟨ao, cap, rfl, hc1, hc2⟩ := hv.val
  clear hv
  obtain ⟨number, how, bits, bytes⟩ := r
  simp only at *
  by_cases h4 : how = 0 ∨ how = 1 ∨ how = 5 ∨ how = 2
  · have hx : (how = 2 ∧ 4000 < bytes.length) ∨ (¬ (how = 2 ∧ 4000 < bytes.length) ∧ number < 1) ∨ (¬ (how = 2 ∧ 4000 < bytes.length) ∧ 536870912 ≤ number) ∨ (¬ (how = 2 ∧ 4000 < bytes.length) ∧ 1 ≤ number ∧ number < 536870912) := by omega
    rcases hx with ⟨rfl, hl⟩ | ⟨hl, hn⟩ | ⟨hl, hn⟩ | ⟨hl, hn, hn2⟩
    · go_enter Tryd.func49, Tryd.ntmps49
      go_wp2_with fail
      all_goals (go_ret; refine ⟨ret_int ?_, (Up.refl _).alloc _⟩; first | (simp [wrongRec]; done) | (simp [wrongRec]; omega))
    · rcases h4 with rfl | rfl | rfl | rfl
      all_goals try have hl : ¬ 4000 < bytes.length := by omega
      all_goals
      go_enter Tryd.func49, Tryd.ntmps49
      go_wp2_with fail
      all_goals (go_ret; refine ⟨ret_int ?_, (Up.refl _).alloc _⟩; first | (simp [wrongRec]; done) | (simp [wrongRec]; omega))
    · rcases h4 with rfl | rfl | rfl | rfl
      all_goals try have hl : ¬ 4000 < bytes.length := by omega
      all_goals
      go_enter Tryd.func49, Tryd.ntmps49
      go_wp2_with fail
      all_goals (go_ret; refine ⟨ret_int ?_, (Up.refl _).alloc _⟩; first | (simp [wrongRec]; done) | (simp [wrongRec]; omega))
    · rcases h4 with rfl | rfl | rfl | rfl
      all_goals try have hl : ¬ 4000 < bytes.length := by omega
      all_goals
      go_enter Tryd.func49, Tryd.ntmps49
      go_wp2_with fail
      all_goals (go_ret; refine ⟨ret_int ?_, (Up.refl _).alloc _⟩; first | (simp [wrongRec]; done) | (simp [wrongRec]; omega))
  · have g0 : (how == 0) = false := by rw [beq_eq_false_iff_ne]; omega
    have g1 : (how == 1) = false := by rw [beq_eq_false_iff_ne]; omega
    have g2 : (how == 2) = false := by rw [beq_eq_false_iff_ne]; omega
    have g5 : (how == 5) = false := by rw [beq_eq_false_iff_ne]; omega
    go_enter Tryd.func49, Tryd.ntmps49
    go_wp2_with fail
    go_ret
    refine ⟨ret_int ?_, (Up.refl _).alloc _⟩
    simp only [wrongRec]
    rw [if_neg h4]
end Go.Proofs.YtplgegffapikoaaDoor
