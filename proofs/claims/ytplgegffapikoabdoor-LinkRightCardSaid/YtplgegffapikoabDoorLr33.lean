/-
  link.Message, link.Enum.
-/
import Derived.Test.YtplgegffapikoabDoorLr30
import Derived.Lib.SliceRun
set_option linter.unusedVariables false
namespace Go.Proofs.YtplgegffapikoabDoor
open Go.RowKit
theorem leq_comm (a b : List UInt8) : (a == b) = (b == a) := by
  rw [Bool.eq_iff_iff]; simp only [beq_iff_eq]; exact eq_comm

set_option maxRecDepth 100000 in
set_option maxHeartbeats 800000 in
theorem find_msg_p (s : List UInt8) (b : Nat) (x : Msg) (cs : List Value) (w : World) (hb : b < w.heap.size) (hc : w.cell? ⟨b, 0, none⟩ = some (.string ⟨s.toArray⟩)) (hd : DMsg All w x cs) :
    Calls Tryd.prog 56 (#[.agg cs.toArray] ++ #[.pointer (some ⟨b, 0, none⟩)]) w fun e w' => e = .returned (.bool (x.name == s)) ∧ Up w w' := by
  obtain ⟨vf, vb, hd, _, _, _⟩ := hd
  subst hd
  show Calls Tryd.prog 56 #[.agg #[.string ⟨x.name.toArray⟩, vf, vb], .pointer (some ⟨b, 0, none⟩)] w _
  have hne : b ≠ w.heap.size := by omega
  go_enter Tryd.func56, Tryd.ntmps56
  go_wp2_with fail
  go_ret
  exact ⟨ret_bool (by simp), (Up.refl w).alloc _⟩
set_option maxRecDepth 100000 in
set_option maxHeartbeats 800000 in
theorem find_msg_l (v : Value) (f : Fil) (s : List UInt8) (w : World) (hv : FilV All w v f) :
    Calls Tryd.prog 24 #[v, .string ⟨s.toArray⟩] w fun e w' => e = .returned (.int .i64 (idxP (fun x => x.name == s) f.msgs)) ∧ Up w w' := by
  obtain ⟨vm, ve, rfl, hm, he⟩ := hv
  have Hm := Lib.hid hm; have He := Lib.hid he; clear hm he
  go_enter Tryd.func24, Tryd.ntmps24
  go_wp2_with fail
  have hu : Up w ((w.alloc (.cells #[vm, ve] 25)).alloc (.cells #[.string ⟨s.toArray⟩] 9)) := ((Up.refl w).alloc _).alloc _
  have hc : ((w.alloc (.cells #[vm, ve] 25)).alloc (.cells #[.string ⟨s.toArray⟩] 9)).cell? ⟨w.heap.size + 1, 0, none⟩ = some (.string ⟨s.toArray⟩) :=
    cell_of_row _ _ 0 _ _ _ (blk_new (w.alloc (.cells #[vm, ve] 25)) (.cells #[.string ⟨s.toArray⟩] 9) (g := w.heap.size + 1) (by simp))
  have hz : w.heap.size + 1 < ((w.alloc (.cells #[vm, ve] 25)).alloc (.cells #[.string ⟨s.toArray⟩] 9)).heap.size := by simp
  generalize (w.alloc (.cells #[vm, ve] 25)).alloc (.cells #[.string ⟨s.toArray⟩] 9) = w1 at *
  refine (indexF_msg _ _ (fun x => x.name == s) 56 (enters_of Tryd.func56 (by kernel_rfl) rfl) #[.pointer (some ⟨w.heap.size + 1, 0, none⟩)] w1 (Hm.out.up stable_msg hu) (fun x cs wr _ hwr hd => find_msg_p s _ x cs wr (Nat.lt_of_lt_of_le hz hwr.size) (hwr.cell_some hc) hd)).mono ?_
  rintro e w2 ⟨rfl, hu2⟩
  go_wp2_with fail
  go_ret
  exact ⟨rfl, hu.trans hu2⟩
set_option maxRecDepth 100000 in
set_option maxHeartbeats 800000 in
theorem find_enu_p (s : List UInt8) (b : Nat) (x : Enu) (cs : List Value) (w : World) (hb : b < w.heap.size) (hc : w.cell? ⟨b, 0, none⟩ = some (.string ⟨s.toArray⟩)) (hd : DEnu All w x cs) :
    Calls Tryd.prog 58 (#[.agg cs.toArray] ++ #[.pointer (some ⟨b, 0, none⟩)]) w fun e w' => e = .returned (.bool (x.name == s)) ∧ Up w w' := by
  obtain ⟨vf, hd, _, _⟩ := hd
  subst hd
  show Calls Tryd.prog 58 #[.agg #[.string ⟨x.name.toArray⟩, vf], .pointer (some ⟨b, 0, none⟩)] w _
  have hne : b ≠ w.heap.size := by omega
  go_enter Tryd.func58, Tryd.ntmps58
  go_wp2_with fail
  go_ret
  exact ⟨ret_bool (by simp), (Up.refl w).alloc _⟩
set_option maxRecDepth 100000 in
set_option maxHeartbeats 800000 in
theorem find_enu_l (v : Value) (f : Fil) (s : List UInt8) (w : World) (hv : FilV All w v f) :
    Calls Tryd.prog 25 #[v, .string ⟨s.toArray⟩] w fun e w' => e = .returned (.int .i64 (idxP (fun x => x.name == s) f.enums)) ∧ Up w w' := by
  obtain ⟨vm, ve, rfl, hm, he⟩ := hv
  have Hm := Lib.hid hm; have He := Lib.hid he; clear hm he
  go_enter Tryd.func25, Tryd.ntmps25
  go_wp2_with fail
  have hu : Up w ((w.alloc (.cells #[vm, ve] 25)).alloc (.cells #[.string ⟨s.toArray⟩] 9)) := ((Up.refl w).alloc _).alloc _
  have hc : ((w.alloc (.cells #[vm, ve] 25)).alloc (.cells #[.string ⟨s.toArray⟩] 9)).cell? ⟨w.heap.size + 1, 0, none⟩ = some (.string ⟨s.toArray⟩) :=
    cell_of_row _ _ 0 _ _ _ (blk_new (w.alloc (.cells #[vm, ve] 25)) (.cells #[.string ⟨s.toArray⟩] 9) (g := w.heap.size + 1) (by simp))
  have hz : w.heap.size + 1 < ((w.alloc (.cells #[vm, ve] 25)).alloc (.cells #[.string ⟨s.toArray⟩] 9)).heap.size := by simp
  generalize (w.alloc (.cells #[vm, ve] 25)).alloc (.cells #[.string ⟨s.toArray⟩] 9) = w1 at *
  refine (indexF_enu _ _ (fun x => x.name == s) 58 (enters_of Tryd.func58 (by kernel_rfl) rfl) #[.pointer (some ⟨w.heap.size + 1, 0, none⟩)] w1 (He.out.up stable_enu hu) (fun x cs wr _ hwr hd => find_enu_p s _ x cs wr (Nat.lt_of_lt_of_le hz hwr.size) (hwr.cell_some hc) hd)).mono ?_
  rintro e w2 ⟨rfl, hu2⟩
  go_wp2_with fail
  go_ret
  exact ⟨rfl, hu.trans hu2⟩
end Go.Proofs.YtplgegffapikoabDoor
