/-
  link.Message, link.Enum; pressref2.Message, pressref2.Enum (written by gen_find.py).
-/
import Derived.Test.YtplgegffapikoaaDoorPt10
import Derived.Lib.SliceRun
set_option linter.unusedVariables false
namespace Go.Proofs.YtplgegffapikoaaDoor
open Go.RowKit
theorem leq_comm (a b : List UInt8) : (a == b) = (b == a) := by
  rw [Bool.eq_iff_iff]; simp only [beq_iff_eq]; exact eq_comm

set_option maxRecDepth 100000 in
set_option maxHeartbeats 800000 in
theorem find_msg_p (s : List UInt8) (b : Nat) (x : Msg) (cs : List Value) (w : World) (hb : b < w.heap.size) (hc : w.cell? ⟨b, 0, none⟩ = some (.string ⟨s.toArray⟩)) (hd : DMsg All w x cs) :
    Calls Tryd.prog 87 (#[.agg cs.toArray] ++ #[.pointer (some ⟨b, 0, none⟩)]) w fun e w' => e = .returned (.bool (x.name == s)) ∧ Up w w' := by
  obtain ⟨vf, vb, hd, _, _, _⟩ := hd
  subst hd
  show Calls Tryd.prog 87 #[.agg #[.string ⟨x.name.toArray⟩, vf, vb], .pointer (some ⟨b, 0, none⟩)] w _
  have hne : b ≠ w.heap.size := by omega
  go_enter Tryd.func87, Tryd.ntmps87
  go_wp2_with fail
  go_ret
  exact ⟨ret_bool (by simp), (Up.refl w).alloc _⟩
set_option maxRecDepth 100000 in
set_option maxHeartbeats 800000 in
theorem find_msg_l (v : Value) (f : Fil) (s : List UInt8) (w : World) (hv : FilV All w v f) :
    Calls Tryd.prog 58 #[v, .string ⟨s.toArray⟩] w fun e w' => e = .returned (.int .i64 (idxP (fun x => x.name == s) f.msgs)) ∧ Up w w' := by
  obtain ⟨vm, ve, rfl, hm, he⟩ := hv
  have Hm := Lib.hid hm; have He := Lib.hid he; clear hm he
  go_enter Tryd.func58, Tryd.ntmps58
  go_wp2_with fail
  have hu : Up w ((w.alloc (.cells #[vm, ve] 25)).alloc (.cells #[.string ⟨s.toArray⟩] 9)) := ((Up.refl w).alloc _).alloc _
  have hc : ((w.alloc (.cells #[vm, ve] 25)).alloc (.cells #[.string ⟨s.toArray⟩] 9)).cell? ⟨w.heap.size + 1, 0, none⟩ = some (.string ⟨s.toArray⟩) :=
    cell_of_row _ _ 0 _ _ _ (blk_new (w.alloc (.cells #[vm, ve] 25)) (.cells #[.string ⟨s.toArray⟩] 9) (g := w.heap.size + 1) (by simp))
  have hz : w.heap.size + 1 < ((w.alloc (.cells #[vm, ve] 25)).alloc (.cells #[.string ⟨s.toArray⟩] 9)).heap.size := by simp
  generalize (w.alloc (.cells #[vm, ve] 25)).alloc (.cells #[.string ⟨s.toArray⟩] 9) = w1 at *
  refine (indexF_msg _ _ (fun x => x.name == s) 87 (enters_of Tryd.func87 (by kernel_rfl) rfl) #[.pointer (some ⟨w.heap.size + 1, 0, none⟩)] w1 (Hm.out.up stable_msg hu) (fun x cs wr _ hwr hd => find_msg_p s _ x cs wr (Nat.lt_of_lt_of_le hz hwr.size) (hwr.cell_some hc) hd)).mono ?_
  rintro e w2 ⟨rfl, hu2⟩
  go_wp2_with fail
  go_ret
  exact ⟨rfl, hu.trans hu2⟩
set_option maxRecDepth 100000 in
set_option maxHeartbeats 800000 in
theorem find_msg_r (v : Value) (f : Fil) (s : List UInt8) (w : World) (hv : FilV All w v f) :
    Calls Tryd.prog 37 #[v, .string ⟨s.toArray⟩] w fun e w' => e = .returned (.int .i64 (idxP (fun x => x.name == s) f.msgs)) ∧ Up w w' := by
  obtain ⟨vm, ve, rfl, hm, he⟩ := hv
  generalize hl : f.msgs = l at *
  obtain ⟨ao, cap, h0, hc1, hc2⟩ := hm.val
  subst h0
  have Hv := Lib.hid hm; clear hm he hl
  go_enter Tryd.func37, Tryd.ntmps37
  go_wp2_with fail
  go_loopw [10] (fun i wr => ∃ k : Nat, k ≤ l.length ∧ i = .int .i64 k ∧ Up w wr ∧ ∀ j, (hj : j < l.length) → j < k → (l[j].name == s) = false) (fun i _ => l.length - (intOf i).toNat)
  case atStart => exact ⟨0, by omega, rfl, (Up.refl _).alloc _, fun j _ h => absurd h (by omega)⟩
  case round =>
    obtain ⟨k, hk, rfl, hu, hg⟩ := hrel
    have Hg := Lib.hid hg; clear hg
    by_cases hlt : k < l.length
    · obtain ⟨b, o, cs, rfl, hb, hl, hcs, hd⟩ := (Hv.out.up stable_msg hu).at hlt
      obtain ⟨vf, vb, hd, hf, hb2, _⟩ := hd
      obtain ⟨fo, fc, rfl, _, _⟩ := hf.val
      obtain ⟨bo, bc, rfl, _, _⟩ := hb2.val
      subst hd
      have c0 := hcs 0 _ rfl
      have c1 := hcs 1 _ rfl
      have c2 := hcs 2 _ rfl
      simp only [Nat.add_zero] at c0
      clear hcs hl
      have i0 : (0 : Int) ≤ (k : Int) := by omega
      have i1 : (k : Int) < (l.length : Int) := by omega
      have hgg := fun e => idxP_at (fun x => x.name == s) l k hlt Hg.out e
      have Hgg := Lib.hid hgg; clear hgg
      have Hgn := Lib.hid (fun e => no_more (p := fun x => x.name == s) hlt Hg.out e)
      have Hu := Lib.hid hu; clear hu
      generalize l[k] = x at *
      cases he : x.name == s with
      | true =>
        go_wp2_with fail
        go_ret
        exact ⟨ret_int (Hgg.out he).symm, Hu.out.alloc _⟩
      | false =>
        go_wp2_with fail
        go_roundw
        case rel => exact ⟨k + 1, by omega, by go_num, Hu.out.alloc _, Hgn.out he⟩
        case measure => simp [intOf]; omega
    · go_wp2_with fail
      go_ret
      exact ⟨ret_int (idxP_none _ _ (fun j hj => Hg.out j hj (by omega))).symm, hu⟩

set_option maxRecDepth 100000 in
set_option maxHeartbeats 800000 in
theorem find_enu_p (s : List UInt8) (b : Nat) (x : Enu) (cs : List Value) (w : World) (hb : b < w.heap.size) (hc : w.cell? ⟨b, 0, none⟩ = some (.string ⟨s.toArray⟩)) (hd : DEnu All w x cs) :
    Calls Tryd.prog 97 (#[.agg cs.toArray] ++ #[.pointer (some ⟨b, 0, none⟩)]) w fun e w' => e = .returned (.bool (x.name == s)) ∧ Up w w' := by
  obtain ⟨vf, hd, _, _⟩ := hd
  subst hd
  show Calls Tryd.prog 97 #[.agg #[.string ⟨x.name.toArray⟩, vf], .pointer (some ⟨b, 0, none⟩)] w _
  have hne : b ≠ w.heap.size := by omega
  go_enter Tryd.func97, Tryd.ntmps97
  go_wp2_with fail
  go_ret
  exact ⟨ret_bool (by simp), (Up.refl w).alloc _⟩
set_option maxRecDepth 100000 in
set_option maxHeartbeats 800000 in
theorem find_enu_l (v : Value) (f : Fil) (s : List UInt8) (w : World) (hv : FilV All w v f) :
    Calls Tryd.prog 92 #[v, .string ⟨s.toArray⟩] w fun e w' => e = .returned (.int .i64 (idxP (fun x => x.name == s) f.enums)) ∧ Up w w' := by
  obtain ⟨vm, ve, rfl, hm, he⟩ := hv
  have Hm := Lib.hid hm; have He := Lib.hid he; clear hm he
  go_enter Tryd.func92, Tryd.ntmps92
  go_wp2_with fail
  have hu : Up w ((w.alloc (.cells #[vm, ve] 25)).alloc (.cells #[.string ⟨s.toArray⟩] 9)) := ((Up.refl w).alloc _).alloc _
  have hc : ((w.alloc (.cells #[vm, ve] 25)).alloc (.cells #[.string ⟨s.toArray⟩] 9)).cell? ⟨w.heap.size + 1, 0, none⟩ = some (.string ⟨s.toArray⟩) :=
    cell_of_row _ _ 0 _ _ _ (blk_new (w.alloc (.cells #[vm, ve] 25)) (.cells #[.string ⟨s.toArray⟩] 9) (g := w.heap.size + 1) (by simp))
  have hz : w.heap.size + 1 < ((w.alloc (.cells #[vm, ve] 25)).alloc (.cells #[.string ⟨s.toArray⟩] 9)).heap.size := by simp
  generalize (w.alloc (.cells #[vm, ve] 25)).alloc (.cells #[.string ⟨s.toArray⟩] 9) = w1 at *
  refine (indexF_enu _ _ (fun x => x.name == s) 97 (enters_of Tryd.func97 (by kernel_rfl) rfl) #[.pointer (some ⟨w.heap.size + 1, 0, none⟩)] w1 (He.out.up stable_enu hu) (fun x cs wr _ hwr hd => find_enu_p s _ x cs wr (Nat.lt_of_lt_of_le hz hwr.size) (hwr.cell_some hc) hd)).mono ?_
  rintro e w2 ⟨rfl, hu2⟩
  go_wp2_with fail
  go_ret
  exact ⟨rfl, hu.trans hu2⟩
set_option maxRecDepth 100000 in
set_option maxHeartbeats 800000 in
theorem find_enu_r (v : Value) (f : Fil) (s : List UInt8) (w : World) (hv : FilV All w v f) :
    Calls Tryd.prog 80 #[v, .string ⟨s.toArray⟩] w fun e w' => e = .returned (.int .i64 (idxP (fun x => x.name == s) f.enums)) ∧ Up w w' := by
  obtain ⟨vm, ve, rfl, hm, he⟩ := hv
  generalize hl : f.enums = l at *
  obtain ⟨ao, cap, h0, hc1, hc2⟩ := he.val
  subst h0
  have Hv := Lib.hid he; clear hm he hl
  go_enter Tryd.func80, Tryd.ntmps80
  go_wp2_with fail
  go_loopw [10] (fun i wr => ∃ k : Nat, k ≤ l.length ∧ i = .int .i64 k ∧ Up w wr ∧ ∀ j, (hj : j < l.length) → j < k → (l[j].name == s) = false) (fun i _ => l.length - (intOf i).toNat)
  case atStart => exact ⟨0, by omega, rfl, (Up.refl _).alloc _, fun j _ h => absurd h (by omega)⟩
  case round =>
    obtain ⟨k, hk, rfl, hu, hg⟩ := hrel
    have Hg := Lib.hid hg; clear hg
    by_cases hlt : k < l.length
    · obtain ⟨b, o, cs, rfl, hb, hl, hcs, hd⟩ := (Hv.out.up stable_enu hu).at hlt
      obtain ⟨vf, hd, hf, _⟩ := hd
      obtain ⟨fo, fc, rfl, _, _⟩ := hf.val
      subst hd
      have c0 := hcs 0 _ rfl
      have c1 := hcs 1 _ rfl
      simp only [Nat.add_zero] at c0
      clear hcs hl
      have i0 : (0 : Int) ≤ (k : Int) := by omega
      have i1 : (k : Int) < (l.length : Int) := by omega
      have hgg := fun e => idxP_at (fun x => x.name == s) l k hlt Hg.out e
      have Hgg := Lib.hid hgg; clear hgg
      have Hgn := Lib.hid (fun e => no_more (p := fun x => x.name == s) hlt Hg.out e)
      have Hu := Lib.hid hu; clear hu
      generalize l[k] = x at *
      cases he : x.name == s with
      | true =>
        go_wp2_with fail
        go_ret
        exact ⟨ret_int (Hgg.out he).symm, Hu.out.alloc _⟩
      | false =>
        go_wp2_with fail
        go_roundw
        case rel => exact ⟨k + 1, by omega, by go_num, Hu.out.alloc _, Hgn.out he⟩
        case measure => simp [intOf]; omega
    · go_wp2_with fail
      go_ret
      exact ⟨ret_int (idxP_none _ _ (fun j hj => Hg.out j hj (by omega))).symm, hu⟩
end Go.Proofs.YtplgegffapikoaaDoor
