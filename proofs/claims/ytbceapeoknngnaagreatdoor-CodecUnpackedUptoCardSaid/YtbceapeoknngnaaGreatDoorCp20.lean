/-
  (*reader).value, of what does not fit.
  (*reader).value, of bytes.
  (*reader).value, of a text.
  Fits, of both.
  link.Message, link.Enum.
-/
import Derived.Test.YtbceapeoknngnaaGreatDoorCp19
import Derived.Test.YtbceapeoknngnaaGreatDoorCp17
import Derived.Test.YtbceapeoknngnaaGreatDoorProg
import Derived.Test.YtbceapeoknngnaaGreatDoorCp03
import Derived.Outline
import Derived.Deep.DeepMust
import Derived.Test.YtbceapeoknngnaaGreatDoorCp10
import Derived.Lib.SliceRun
set_option linter.unusedVariables false
namespace Go.Proofs.YtbceapeoknngnaaGreatDoor
open Go.RowKit
set_option maxRecDepth 100000 in
set_option maxHeartbeats 1600000 in
theorem rvalue_unfit (x : Fld) (r : Rec) (cb bf fo b o : Nat) (deep : Int) (w : World) (hx : FldAt w bf fo x) (h1 : w.cell? ⟨b, o + 1, none⟩ = some (.int .i64 r.how)) (hk : howC x.kind = 2) (hr : r.how ≠ 2) :
    Calls Tryz.prog 70 #[.pointer (some ⟨cb, 0, none⟩), .pointer (some ⟨bf, fo, none⟩), .pointer (some ⟨b, o, none⟩), .int .i64 deep] w fun e w' => e = .returned (.tuple #[.agg #[.int .i64 x.number, .slice none 0 0, .slice none 0 0, .slice none 0 0], .bool false, .int .i64 8]) ∧ Up w w' := by
  have hhw := how_c x.kind
  rw [hk] at hhw
  have Hhw := Lib.hid hhw
  obtain ⟨hxb, ⟨x0, x1, x2, x3, x4, x5⟩, hxd⟩ := hx
  have hb := World.block_lt_of_cell? w _ h1
  simp only at hb
  have hn2 : (r.how != 2) = true := by rw [bne_iff_ne]; exact hr
  clear hk x0 x3 x4 x5 hxd hhw hr
  have hb1 : bf ≠ w.heap.size := by omega
  have hb2 : bf ≠ w.heap.size + 1 := by omega
  have hb3 : b ≠ w.heap.size := by omega
  have hb4 : b ≠ w.heap.size + 1 := by omega
  have u1 := (Up.refl w).alloc (.cells #[.int .i64 0, .slice none 0 0, .slice none 0 0, .slice none 0 0] 53)
  have u2 := u1.alloc (.cells #[.int .i64 x.number, .slice none 0 0, .slice none 0 0, .slice none 0 0] 53)
  have g1 := u2.cell_some h1
  have g2 := u2.cell_some x2
  clear u1 u2
  go_enter Tryz.func70, Tryz.ntmps70
  go_wp2_with (go_at_call 21; go_must (refine (Hhw.out _).mono ?_; rintro e w1 ⟨rfl, hw1⟩; subst hw1))
  all_goals
    refine bodyPost_ret (v := .tuple #[.agg #[.int .i64 x.number, .slice none 0 0, .slice none 0 0, .slice none 0 0], .bool false, .int .i64 8]) (by simp [results, Tryz.results70, go_sem]) rfl ?_
    refine ⟨rfl, ?_⟩
    repeat (with_reducible refine Up.setCell ?_ ?_ _)
    all_goals first | exact ((Up.refl w).alloc _).alloc _ | simp
end Go.Proofs.YtbceapeoknngnaaGreatDoor
set_option linter.unusedVariables false
namespace Go.Proofs.YtbceapeoknngnaaGreatDoor
open Go.RowKit
def SVal (S : Nat → Prop) (B : Nat) : Nat → Prop := fun k => (S k ∧ k < B) ∨ B + 2 ≤ k
theorem SVal.keep {S : Nat → Prop} {w w' : World} (u : Up w w') : Keep S w (SVal S w.heap.size) w' := fun k hs hlt => ⟨u.block k hlt, .inl ⟨hs, hlt⟩⟩
theorem rdS_bytes1 (S : Nat → Prop) (W : World) (a3 : Option Addr) (c3 : Nat) (l : List UInt8) (hr : RdB S W (.slice a3 l.length c3) l) (hl : l.length ≤ 140737488355328) (t : TypeId) (g : Nat) (hg : g = W.heap.size) (hS : S g) : RdS DBytes 1 S (W.alloc (.cells #[.slice a3 l.length c3] t)) (.slice (some ⟨g, 0, none⟩) 1 1) [l] := by
  subst hg
  refine ⟨some ⟨W.heap.size, 0, none⟩, 1, rfl, by simp, by unfold maxLen; omega, (fun e => nomatch e), fun i hi => ?_⟩
  have : i = 0 := by simpa using hi
  subst this
  refine ⟨W.heap.size, 0, [.slice a3 l.length c3], rfl, hS, by simp, rfl, fun j u hu => ?_, ⟨_, rfl, hr.keep stable_u8 (Keep.alloc _), hl⟩⟩
  have hj : j = 0 := by
    have := (List.getElem?_eq_some_iff.1 hu).1
    simpa using this
  subst hj
  simp at hu
  subst hu
  exact cell_of_row _ _ 0 _ _ _ (heap_alloc_new W _)
set_option maxRecDepth 100000 in
set_option maxHeartbeats 1600000 in
theorem rvalue_raw (S : Nat → Prop) (x : Fld) (r : Rec) (cb bf fo b o c3 : Nat) (a3 : Option Addr) (deep : Int) (w : World) (hx : FldAt w bf fo x) (h1 : w.cell? ⟨b, o + 1, none⟩ = some (.int .i64 r.how)) (h3 : w.cell? ⟨b, o + 3, none⟩ = some (.slice a3 r.bytes.length c3))
    (hr : RdB S w (.slice a3 r.bytes.length c3) r.bytes) (hbl : r.bytes.length ≤ 140737488355328) (hk : x.kind = 9) (hh : r.how = 2) :
    Calls Tryz.prog 70 #[.pointer (some ⟨cb, 0, none⟩), .pointer (some ⟨bf, fo, none⟩), .pointer (some ⟨b, o, none⟩), .int .i64 deep] w fun e w' => ∃ v2, e = .returned (.tuple #[.agg #[.int .i64 x.number, .slice none 0 0, v2, .slice none 0 0], .bool true, .int .i64 0]) ∧ RdS DBytes 1 (SVal S w.heap.size) w' v2 [r.bytes] ∧ Up w w' := by
  have hhw := how_c x.kind
  rw [hk] at hhw
  have Hhw := Lib.hid hhw
  have Hr := Lib.hid hr
  obtain ⟨hxb, ⟨x0, x1, x2, x3, x4, x5⟩, hxd⟩ := hx
  rw [hk] at x2
  rw [hh] at h1
  have hb := World.block_lt_of_cell? w _ h1
  simp only at hb
  clear hk hh x0 x3 x4 x5 hxd hhw hr
  have hb1 : bf ≠ w.heap.size := by omega
  have hb2 : bf ≠ w.heap.size + 1 := by omega
  have hb3 : b ≠ w.heap.size := by omega
  have hb4 : b ≠ w.heap.size + 1 := by omega
  have u2 := ((Up.refl w).alloc (.cells #[.int .i64 0, .slice none 0 0, .slice none 0 0, .slice none 0 0] 53)).alloc (.cells #[.int .i64 x.number, .slice none 0 0, .slice none 0 0, .slice none 0 0] 53)
  have g1 := u2.cell_some h1
  have g2 := u2.cell_some x2
  have g3 := u2.cell_some h3
  clear u2
  go_enter Tryz.func70, Tryz.ntmps70
  go_wp2_with (go_at_call 21; go_must (refine (Hhw.out _).mono ?_; rintro e w1 ⟨rfl, hw1⟩; subst hw1))
  all_goals
    refine bodyPost_ret (v := .tuple #[.agg #[.int .i64 x.number, .slice none 0 0, .slice (some ⟨w.heap.size + 2, 0, none⟩) 1 1, .slice none 0 0], .bool true, .int .i64 0]) (by simp [results, Tryz.results70, go_sem]) rfl ?_
    refine ⟨_, rfl, ?_, ?_⟩
    · exact rdS_bytes1 _ _ a3 c3 r.bytes (Hr.out.keep stable_u8 (SVal.keep (((Up.refl w).alloc _).alloc _))) hbl _ _ (by simp) (.inr (Nat.le_refl _))
    · repeat (with_reducible refine Up.setCell ?_ ?_ _)
      all_goals first | exact (((Up.refl w).alloc _).alloc _).alloc _ | simp
end Go.Proofs.YtbceapeoknngnaaGreatDoor
set_option linter.unusedVariables false
namespace Go.Proofs.YtbceapeoknngnaaGreatDoor
open Go.RowKit
set_option maxRecDepth 100000 in
set_option maxHeartbeats 1600000 in
theorem rvalue_text (S : Nat → Prop) (x : Fld) (r : Rec) (cb bf fo b o c3 : Nat) (a3 : Option Addr) (deep : Int) (w : World) (hx : FldAt w bf fo x) (h1 : w.cell? ⟨b, o + 1, none⟩ = some (.int .i64 r.how)) (h3 : w.cell? ⟨b, o + 3, none⟩ = some (.slice a3 r.bytes.length c3))
    (hr : RdB S w (.slice a3 r.bytes.length c3) r.bytes) (hbl : r.bytes.length ≤ 140737488355328) (hk : x.kind = 8) (hT : Tabs w) (hh : r.how = 2) :
    Calls Tryz.prog 70 #[.pointer (some ⟨cb, 0, none⟩), .pointer (some ⟨bf, fo, none⟩), .pointer (some ⟨b, o, none⟩), .int .i64 deep] w fun e w' => ∃ v2, e = .returned (.tuple #[.agg #[.int .i64 x.number, .slice none 0 0, v2, .slice none 0 0], .bool (Lib.validD r.bytes), .int .i64 (if Lib.validD r.bytes = true then 0 else 9)]) ∧ RdS DBytes 1 (SVal S w.heap.size) w' v2 (if Lib.validD r.bytes = true then [r.bytes] else []) ∧ Up w w' := by
  have hhw := how_c x.kind
  rw [hk] at hhw
  have Hhw := Lib.hid hhw
  have Hr := Lib.hid hr
  have Hval := Lib.hid (fun W (u : Up w W) => valid_b _ r.bytes W ((hr.keep stable_u8 Keep.all).up stable_u8 u) (hT.up u))
  obtain ⟨hxb, ⟨x0, x1, x2, x3, x4, x5⟩, hxd⟩ := hx
  rw [hk] at x2
  rw [hh] at h1
  have hb := World.block_lt_of_cell? w _ h1
  simp only at hb
  clear hT hk hh x0 x3 x4 x5 hxd hhw hr
  have hb1 : bf ≠ w.heap.size := by omega
  have hb2 : bf ≠ w.heap.size + 1 := by omega
  have hb3 : b ≠ w.heap.size := by omega
  have hb4 : b ≠ w.heap.size + 1 := by omega
  have u2 := ((Up.refl w).alloc (.cells #[.int .i64 0, .slice none 0 0, .slice none 0 0, .slice none 0 0] 53)).alloc (.cells #[.int .i64 x.number, .slice none 0 0, .slice none 0 0, .slice none 0 0] 53)
  have g1 := u2.cell_some h1
  have g2 := u2.cell_some x2
  have g3 := u2.cell_some h3
  clear u2
  go_enter Tryz.func70, Tryz.ntmps70
  have hu0 := Lib.hid (((Up.refl w).alloc (.cells #[.int .i64 0, .slice none 0 0, .slice none 0 0, .slice none 0 0] 53)).alloc (.cells #[.int .i64 x.number, .slice none 0 0, .slice none 0 0, .slice none 0 0] 53))
  have hk0 := Lib.hid (show ((w.alloc (.cells #[.int .i64 0, .slice none 0 0, .slice none 0 0, .slice none 0 0] 53)).alloc (.cells #[.int .i64 x.number, .slice none 0 0, .slice none 0 0, .slice none 0 0] 53)).heap[w.heap.size]? = some (.cells #[.int .i64 0, .slice none 0 0, .slice none 0 0, .slice none 0 0] 53 (0, 0)) from blk_old _ (blk_new w _ rfl))
  have hk1 := Lib.hid (show ((w.alloc (.cells #[.int .i64 0, .slice none 0 0, .slice none 0 0, .slice none 0 0] 53)).alloc (.cells #[.int .i64 x.number, .slice none 0 0, .slice none 0 0, .slice none 0 0] 53)).heap[w.heap.size + 1]? = some (.cells #[.int .i64 x.number, .slice none 0 0, .slice none 0 0, .slice none 0 0] 53 (0, 0)) from blk_new (w.alloc _) _ (by simp))
  have H3 := Lib.hid g3
  cases hvd : Lib.validD r.bytes
  all_goals
    rw [hvd] at Hval
    clear hvd
    go_wp2_with (first
      | (go_at_call 21; go_must (refine (Hhw.out _).mono ?_; rintro e w1 ⟨rfl, hw1⟩; subst hw1))
      | (go_at_call 135; go_must (refine (Hval.out _ hu0.out).mono ?_; rintro e w5 ⟨rfl, hu5⟩; have k0 := hu5.blk hk0.out; have k1 := hu5.blk hk1.out; have hz5 := hu5.size; have q0 := lt_of_block k0; have q1 := lt_of_block k1; have z0 : w5.cell? ⟨w.heap.size, 0, none⟩ = some (.int .i64 0) := cell_of_row w5 _ 0 _ _ _ k0; have z1 : w5.cell? ⟨w.heap.size, 1, none⟩ = some (.slice none 0 0) := cell_of_row w5 _ 1 _ _ _ k0; have z2 : w5.cell? ⟨w.heap.size, 2, none⟩ = some (.slice none 0 0) := cell_of_row w5 _ 2 _ _ _ k0; have z3 : w5.cell? ⟨w.heap.size, 3, none⟩ = some (.slice none 0 0) := cell_of_row w5 _ 3 _ _ _ k0; have y0 : w5.cell? ⟨w.heap.size + 1, 0, none⟩ = some (.int .i64 x.number) := cell_of_row w5 _ 0 _ _ _ k1; have y1 : w5.cell? ⟨w.heap.size + 1, 1, none⟩ = some (.slice none 0 0) := cell_of_row w5 _ 1 _ _ _ k1; have y2 : w5.cell? ⟨w.heap.size + 1, 2, none⟩ = some (.slice none 0 0) := cell_of_row w5 _ 2 _ _ _ k1; have y3 : w5.cell? ⟨w.heap.size + 1, 3, none⟩ = some (.slice none 0 0) := cell_of_row w5 _ 3 _ _ _ k1; have f0 : ∀ o, w5.frozen? ⟨w.heap.size, o, none⟩ = false := (fun o => frozen_of_row w5 _ o _ _ k0); have f1 : ∀ o, w5.frozen? ⟨w.heap.size + 1, o, none⟩ = false := (fun o => frozen_of_row w5 _ o _ _ k1); have g35 := hu5.cell_some H3.out; have Hu5 := Lib.hid (hu0.out.trans hu5); have Hz5 := Lib.hid hz5; clear k0 k1 hu5 hz5)))
    first
      | (refine bodyPost_ret (v := .tuple #[.agg #[.int .i64 x.number, .slice none 0 0, .slice none 0 0, .slice none 0 0], .bool false, .int .i64 9]) (by simp [results, Tryz.results70, go_sem, z0, z1, z2, z3]) rfl ?_
         refine ⟨_, rfl, rdS_nil _ _ _ _, ?_⟩
         repeat (with_reducible refine Up.setCell ?_ ?_ _)
         · exact Hu5.out
         all_goals simp)
      | (have ne0 : w.heap.size ≠ w5.heap.size := by omega
         have ne1 : w.heap.size + 1 ≠ w5.heap.size := by omega
         refine bodyPost_ret (v := .tuple #[.agg #[.int .i64 x.number, .slice none 0 0, .slice (some ⟨w5.heap.size, 0, none⟩) 1 1, .slice none 0 0], .bool true, .int .i64 0]) (by simp [results, Tryz.results70, go_sem, z0, z1, z2, z3, q0]) rfl ?_
         refine ⟨_, rfl, rdS_bytes1 _ _ a3 c3 r.bytes ((Hr.out.keep stable_u8 (SVal.keep Hu5.out)).keep stable_u8 ?_) hbl _ _ (by simp) (.inr (by have := Hz5.out; simp at this; omega)), ?_⟩
         · repeat (with_reducible refine Keep.trans ?_ (Keep.setCell ?_ _))
           · exact Keep.weak (fun k hk => hk)
           all_goals (show ¬ ((S _ ∧ _ < w.heap.size) ∨ w.heap.size + 2 ≤ _); simp)
         · refine Up.alloc ?_ _
           repeat (with_reducible refine Up.setCell ?_ ?_ _)
           · exact Hu5.out
           all_goals simp)
end Go.Proofs.YtbceapeoknngnaaGreatDoor
set_option linter.unusedVariables false
namespace Go.Proofs.YtbceapeoknngnaaGreatDoor
open Go.RowKit
set_option maxRecDepth 100000 in
set_option maxHeartbeats 800000 in
theorem fits_any (kind : Int) (n : Nat) (w : World) (hn : n < 2 ^ 64) :
    Calls Tryz.prog 174 #[.int .i64 kind, .int .u64 n] w fun e w' => e = .returned (.int .i64 (fitsN kind n)) ∧ w' = w := by
  go_enter Tryz.func174, Tryz.ntmps174
  go_wp2_with fail
  all_goals
    go_ret
    refine ⟨ret_int ?_, rfl⟩
    unfold fitsN
    simp only [beq_iff_eq, beq_eq_false_iff_ne, ne_eq, bne_iff_ne, bne_eq_false_iff_eq, IntKind.wrap_u64, wrap64, wrap32] at *
    (repeat' split) <;> omega
end Go.Proofs.YtbceapeoknngnaaGreatDoor
set_option linter.unusedVariables false
namespace Go.Proofs.YtbceapeoknngnaaGreatDoor
open Go.RowKit
set_option maxRecDepth 100000 in
set_option maxHeartbeats 800000 in
theorem find_msg_p (s : List UInt8) (b : Nat) (x : Msg) (cs : List Value) (w : World) (hb : b < w.heap.size) (hc : w.cell? ⟨b, 0, none⟩ = some (.string ⟨s.toArray⟩)) (hd : DMsg All w x cs) :
    Calls Tryz.prog 146 (#[.agg cs.toArray] ++ #[.pointer (some ⟨b, 0, none⟩)]) w fun e w' => e = .returned (.bool (x.name == s)) ∧ Up w w' := by
  obtain ⟨vf, vb, hd, _, _, _⟩ := hd
  subst hd
  show Calls Tryz.prog 146 #[.agg #[.string ⟨x.name.toArray⟩, vf, vb], .pointer (some ⟨b, 0, none⟩)] w _
  have hne : b ≠ w.heap.size := by omega
  go_enter Tryz.func146, Tryz.ntmps146
  go_wp2_with fail
  go_ret
  exact ⟨ret_bool (by simp), (Up.refl w).alloc _⟩
set_option maxRecDepth 100000 in
set_option maxHeartbeats 800000 in
theorem find_msg_l (v : Value) (f : Fil) (s : List UInt8) (w : World) (hv : FilV All w v f) :
    Calls Tryz.prog 81 #[v, .string ⟨s.toArray⟩] w fun e w' => e = .returned (.int .i64 (idxP (fun x => x.name == s) f.msgs)) ∧ Up w w' := by
  obtain ⟨vm, ve, rfl, hm, he⟩ := hv
  have Hm := Lib.hid hm; have He := Lib.hid he; clear hm he
  go_enter Tryz.func81, Tryz.ntmps81
  go_wp2_with fail
  have hu : Up w ((w.alloc (.cells #[vm, ve] 25)).alloc (.cells #[.string ⟨s.toArray⟩] 9)) := ((Up.refl w).alloc _).alloc _
  have hc : ((w.alloc (.cells #[vm, ve] 25)).alloc (.cells #[.string ⟨s.toArray⟩] 9)).cell? ⟨w.heap.size + 1, 0, none⟩ = some (.string ⟨s.toArray⟩) :=
    cell_of_row _ _ 0 _ _ _ (blk_new (w.alloc (.cells #[vm, ve] 25)) (.cells #[.string ⟨s.toArray⟩] 9) (g := w.heap.size + 1) (by simp))
  have hz : w.heap.size + 1 < ((w.alloc (.cells #[vm, ve] 25)).alloc (.cells #[.string ⟨s.toArray⟩] 9)).heap.size := by simp
  generalize (w.alloc (.cells #[vm, ve] 25)).alloc (.cells #[.string ⟨s.toArray⟩] 9) = w1 at *
  refine (indexF_msg _ _ (fun x => x.name == s) 146 (enters_of Tryz.func146 (by kernel_rfl) rfl) #[.pointer (some ⟨w.heap.size + 1, 0, none⟩)] w1 (Hm.out.up stable_msg hu) (fun x cs wr _ hwr hd => find_msg_p s _ x cs wr (Nat.lt_of_lt_of_le hz hwr.size) (hwr.cell_some hc) hd)).mono ?_
  rintro e w2 ⟨rfl, hu2⟩
  go_wp2_with fail
  go_ret
  exact ⟨rfl, hu.trans hu2⟩
set_option maxRecDepth 100000 in
set_option maxHeartbeats 800000 in
theorem find_enu_p (s : List UInt8) (b : Nat) (x : Enu) (cs : List Value) (w : World) (hb : b < w.heap.size) (hc : w.cell? ⟨b, 0, none⟩ = some (.string ⟨s.toArray⟩)) (hd : DEnu All w x cs) :
    Calls Tryz.prog 148 (#[.agg cs.toArray] ++ #[.pointer (some ⟨b, 0, none⟩)]) w fun e w' => e = .returned (.bool (x.name == s)) ∧ Up w w' := by
  obtain ⟨vf, hd, _, _⟩ := hd
  subst hd
  show Calls Tryz.prog 148 #[.agg #[.string ⟨x.name.toArray⟩, vf], .pointer (some ⟨b, 0, none⟩)] w _
  have hne : b ≠ w.heap.size := by omega
  go_enter Tryz.func148, Tryz.ntmps148
  go_wp2_with fail
  go_ret
  exact ⟨ret_bool (by simp), (Up.refl w).alloc _⟩
set_option maxRecDepth 100000 in
set_option maxHeartbeats 800000 in
theorem find_enu_l (v : Value) (f : Fil) (s : List UInt8) (w : World) (hv : FilV All w v f) :
    Calls Tryz.prog 82 #[v, .string ⟨s.toArray⟩] w fun e w' => e = .returned (.int .i64 (idxP (fun x => x.name == s) f.enums)) ∧ Up w w' := by
  obtain ⟨vm, ve, rfl, hm, he⟩ := hv
  have Hm := Lib.hid hm; have He := Lib.hid he; clear hm he
  go_enter Tryz.func82, Tryz.ntmps82
  go_wp2_with fail
  have hu : Up w ((w.alloc (.cells #[vm, ve] 25)).alloc (.cells #[.string ⟨s.toArray⟩] 9)) := ((Up.refl w).alloc _).alloc _
  have hc : ((w.alloc (.cells #[vm, ve] 25)).alloc (.cells #[.string ⟨s.toArray⟩] 9)).cell? ⟨w.heap.size + 1, 0, none⟩ = some (.string ⟨s.toArray⟩) :=
    cell_of_row _ _ 0 _ _ _ (blk_new (w.alloc (.cells #[vm, ve] 25)) (.cells #[.string ⟨s.toArray⟩] 9) (g := w.heap.size + 1) (by simp))
  have hz : w.heap.size + 1 < ((w.alloc (.cells #[vm, ve] 25)).alloc (.cells #[.string ⟨s.toArray⟩] 9)).heap.size := by simp
  generalize (w.alloc (.cells #[vm, ve] 25)).alloc (.cells #[.string ⟨s.toArray⟩] 9) = w1 at *
  refine (indexF_enu _ _ (fun x => x.name == s) 148 (enters_of Tryz.func148 (by kernel_rfl) rfl) #[.pointer (some ⟨w.heap.size + 1, 0, none⟩)] w1 (He.out.up stable_enu hu) (fun x cs wr _ hwr hd => find_enu_p s _ x cs wr (Nat.lt_of_lt_of_le hz hwr.size) (hwr.cell_some hc) hd)).mono ?_
  rintro e w2 ⟨rfl, hu2⟩
  go_wp2_with fail
  go_ret
  exact ⟨rfl, hu.trans hu2⟩
end Go.Proofs.YtbceapeoknngnaaGreatDoor
