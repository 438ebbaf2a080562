/-
  (*reader).value, of what does not fit.
  (*reader).value, of bytes.
  (*reader).value, of a text.
  Fits, of both.
  link.Message, link.Enum.
  (*checker).value.
-/
import Derived.Test.YtbceapeoknngnaaGreatDoorUs15
import Derived.Lib.SliceRun
set_option linter.unusedVariables false
namespace Go.Proofs.YtbceapeoknngnaaGreatDoor
open Go.RowKit
set_option maxRecDepth 100000
open Lib (hid)
set_option maxHeartbeats 1600000 in
theorem rvalue_unfit (x : Fld) (r : Rec) (cb bf fo b o : Nat) (deep : Int) (w : World) (hx : FldAt w bf fo x) (h1 : w.cell? ⟨b, o + 1, none⟩ = some (.int .i64 r.how)) (hk : howC x.kind = 2) (hr : r.how ≠ 2) :
   Calls Tryz.prog 70 #[.pointer (some ⟨cb, 0, none⟩), .pointer (some ⟨bf, fo, none⟩), .pointer (some ⟨b, o, none⟩), .int .i64 deep] w fun e w' => e = .returned (.tuple #[.agg #[.int .i64 x.number, .slice none 0 0, .slice none 0 0, .slice none 0 0], .bool false, .int .i64 8]) ∧ Up w w' := by
 have hhw := how_c x.kind; rw [hk] at hhw; have Hhw := hid hhw; obtain ⟨hxb, ⟨x0, x1, x2, x3, x4, x5⟩, hxd⟩ := hx; have hb := World.block_lt_of_cell? w _ h1; simp only at hb; (have hn2 : (r.how != 2) = true := by rw [bne_iff_ne]; exact hr); clear hk x0 x3 x4 x5 hxd hhw hr; (have hb1 : bf ≠ w.heap.size := by omega); (have hb2 : bf ≠ w.heap.size + 1 := by omega); (have hb3 : b ≠ w.heap.size := by omega); (have hb4 : b ≠ w.heap.size + 1 := by omega); have u1 := (Up.refl w).alloc (.cells #[.int .i64 0, .slice none 0 0, .slice none 0 0, .slice none 0 0] 53); have u2 := u1.alloc (.cells #[.int .i64 x.number, .slice none 0 0, .slice none 0 0, .slice none 0 0] 53); have g1 := u2.cell_some h1; have g2 := u2.cell_some x2; clear u1 u2
 go_enter Tryz.func70, Tryz.ntmps70
 go_wp2_with (go_at_call 21; go_must (refine (Hhw.out _).mono ?_; rintro e w1 ⟨rfl, hw1⟩; subst hw1))
 all_goals
   refine bodyPost_ret (v := .tuple #[.agg #[.int .i64 x.number, .slice none 0 0, .slice none 0 0, .slice none 0 0], .bool false, .int .i64 8]) (by simp [results, Tryz.results70, go_sem]) rfl ?_; refine ⟨rfl, ?_⟩; (repeat (with_reducible refine Up.setCell ?_ ?_ _)); all_goals first | exact ((Up.refl w).alloc _).alloc _ | simp
def SVal (S : Nat → Prop) (B : Nat) : Nat → Prop := fun k => (S k ∧ k < B) ∨ B + 2 ≤ k
theorem SVal.keep {S : Nat → Prop} {w w' : World} (u : Up w w') : Keep S w (SVal S w.heap.size) w' := fun k hs hlt => ⟨u.block k hlt, .inl ⟨hs, hlt⟩⟩
theorem rdS_bytes1 (S : Nat → Prop) (W : World) (a3 : Option Addr) (c3 : Nat) (l : List UInt8) (hr : RdB S W (.slice a3 l.length c3) l) (hl : l.length ≤ 140737488355328) (t : TypeId) (g : Nat) (hg : g = W.heap.size) (hS : S g) : RdS DBytes 1 S (W.alloc (.cells #[.slice a3 l.length c3] t)) (.slice (some ⟨g, 0, none⟩) 1 1) [l] := by
 subst hg; refine ⟨some ⟨W.heap.size, 0, none⟩, 1, rfl, by simp, by unfold maxLen; omega, (fun e => nomatch e), fun i hi => ?_⟩; (have : i = 0 := by simpa using hi); subst this; refine ⟨W.heap.size, 0, [.slice a3 l.length c3], rfl, hS, by simp, rfl, fun j u hu => ?_, ⟨_, rfl, hr.keep stable_u8 (Keep.alloc _), hl⟩⟩
 have hj : j = 0 := by
   have := (List.getElem?_eq_some_iff.1 hu).1; simpa using this
 subst hj; simp at hu; subst hu; exact cell_of_row _ _ 0 _ _ _ (heap_alloc_new W _)
set_option maxHeartbeats 1600000 in
theorem rvalue_raw (S : Nat → Prop) (x : Fld) (r : Rec) (cb bf fo b o c3 : Nat) (a3 : Option Addr) (deep : Int) (w : World) (hx : FldAt w bf fo x) (h1 : w.cell? ⟨b, o + 1, none⟩ = some (.int .i64 r.how)) (h3 : w.cell? ⟨b, o + 3, none⟩ = some (.slice a3 r.bytes.length c3))
   (hr : RdB S w (.slice a3 r.bytes.length c3) r.bytes) (hbl : r.bytes.length ≤ 140737488355328) (hk : x.kind = 9) (hh : r.how = 2) :
   Calls Tryz.prog 70 #[.pointer (some ⟨cb, 0, none⟩), .pointer (some ⟨bf, fo, none⟩), .pointer (some ⟨b, o, none⟩), .int .i64 deep] w fun e w' => ∃ v2, e = .returned (.tuple #[.agg #[.int .i64 x.number, .slice none 0 0, v2, .slice none 0 0], .bool true, .int .i64 0]) ∧ RdS DBytes 1 (SVal S w.heap.size) w' v2 [r.bytes] ∧ Up w w' := by
 have hhw := how_c x.kind; rw [hk] at hhw; have Hhw := hid hhw; have Hr := hid hr; obtain ⟨hxb, ⟨x0, x1, x2, x3, x4, x5⟩, hxd⟩ := hx; rw [hk] at x2; rw [hh] at h1; have hb := World.block_lt_of_cell? w _ h1; simp only at hb; clear hk hh x0 x3 x4 x5 hxd hhw hr; (have hb1 : bf ≠ w.heap.size := by omega); (have hb2 : bf ≠ w.heap.size + 1 := by omega); (have hb3 : b ≠ w.heap.size := by omega); (have hb4 : b ≠ w.heap.size + 1 := by omega); have u2 := ((Up.refl w).alloc (.cells #[.int .i64 0, .slice none 0 0, .slice none 0 0, .slice none 0 0] 53)).alloc (.cells #[.int .i64 x.number, .slice none 0 0, .slice none 0 0, .slice none 0 0] 53); have g1 := u2.cell_some h1; have g2 := u2.cell_some x2; have g3 := u2.cell_some h3; clear u2
 go_enter Tryz.func70, Tryz.ntmps70
 go_wp2_with (go_at_call 21; go_must (refine (Hhw.out _).mono ?_; rintro e w1 ⟨rfl, hw1⟩; subst hw1))
 all_goals
   refine bodyPost_ret (v := .tuple #[.agg #[.int .i64 x.number, .slice none 0 0, .slice (some ⟨w.heap.size + 2, 0, none⟩) 1 1, .slice none 0 0], .bool true, .int .i64 0]) (by simp [results, Tryz.results70, go_sem]) rfl ?_; refine ⟨_, rfl, ?_, ?_⟩
   · exact rdS_bytes1 _ _ a3 c3 r.bytes (Hr.out.keep stable_u8 (SVal.keep (((Up.refl w).alloc _).alloc _))) hbl _ _ (by simp) (.inr (Nat.le_refl _))
   · (repeat (with_reducible refine Up.setCell ?_ ?_ _)); all_goals first | exact (((Up.refl w).alloc _).alloc _).alloc _ | simp
set_option maxHeartbeats 1600000 in
theorem rvalue_text (S : Nat → Prop) (x : Fld) (r : Rec) (cb bf fo b o c3 : Nat) (a3 : Option Addr) (deep : Int) (w : World) (hx : FldAt w bf fo x) (h1 : w.cell? ⟨b, o + 1, none⟩ = some (.int .i64 r.how)) (h3 : w.cell? ⟨b, o + 3, none⟩ = some (.slice a3 r.bytes.length c3))
   (hr : RdB S w (.slice a3 r.bytes.length c3) r.bytes) (hbl : r.bytes.length ≤ 140737488355328) (hk : x.kind = 8) (hT : Tabs w) (hh : r.how = 2) :
   Calls Tryz.prog 70 #[.pointer (some ⟨cb, 0, none⟩), .pointer (some ⟨bf, fo, none⟩), .pointer (some ⟨b, o, none⟩), .int .i64 deep] w fun e w' => ∃ v2, e = .returned (.tuple #[.agg #[.int .i64 x.number, .slice none 0 0, v2, .slice none 0 0], .bool (Lib.validD r.bytes), .int .i64 (if Lib.validD r.bytes = true then 0 else 9)]) ∧ RdS DBytes 1 (SVal S w.heap.size) w' v2 (if Lib.validD r.bytes = true then [r.bytes] else []) ∧ Up w w' := by
 have hhw := how_c x.kind; rw [hk] at hhw; have Hhw := hid hhw; have Hr := hid hr; have Hval := hid (fun W (u : Up w W) => valid_b _ r.bytes W ((hr.keep stable_u8 Keep.all).up stable_u8 u) (hT.up u)); obtain ⟨hxb, ⟨x0, x1, x2, x3, x4, x5⟩, hxd⟩ := hx; rw [hk] at x2; rw [hh] at h1; have hb := World.block_lt_of_cell? w _ h1; simp only at hb; clear hT hk hh x0 x3 x4 x5 hxd hhw hr; (have hb1 : bf ≠ w.heap.size := by omega); (have hb2 : bf ≠ w.heap.size + 1 := by omega); (have hb3 : b ≠ w.heap.size := by omega); (have hb4 : b ≠ w.heap.size + 1 := by omega); have u2 := ((Up.refl w).alloc (.cells #[.int .i64 0, .slice none 0 0, .slice none 0 0, .slice none 0 0] 53)).alloc (.cells #[.int .i64 x.number, .slice none 0 0, .slice none 0 0, .slice none 0 0] 53); have g1 := u2.cell_some h1; have g2 := u2.cell_some x2; have g3 := u2.cell_some h3; clear u2
 go_enter Tryz.func70, Tryz.ntmps70
 have hu0 := hid (((Up.refl w).alloc (.cells #[.int .i64 0, .slice none 0 0, .slice none 0 0, .slice none 0 0] 53)).alloc (.cells #[.int .i64 x.number, .slice none 0 0, .slice none 0 0, .slice none 0 0] 53)); have hk0 := hid (show ((w.alloc (.cells #[.int .i64 0, .slice none 0 0, .slice none 0 0, .slice none 0 0] 53)).alloc (.cells #[.int .i64 x.number, .slice none 0 0, .slice none 0 0, .slice none 0 0] 53)).heap[w.heap.size]? = some (.cells #[.int .i64 0, .slice none 0 0, .slice none 0 0, .slice none 0 0] 53 (0, 0)) from blk_old _ (blk_new w _ rfl)); have hk1 := hid (show ((w.alloc (.cells #[.int .i64 0, .slice none 0 0, .slice none 0 0, .slice none 0 0] 53)).alloc (.cells #[.int .i64 x.number, .slice none 0 0, .slice none 0 0, .slice none 0 0] 53)).heap[w.heap.size + 1]? = some (.cells #[.int .i64 x.number, .slice none 0 0, .slice none 0 0, .slice none 0 0] 53 (0, 0)) from blk_new (w.alloc _) _ (by simp)); have H3 := hid g3; cases hvd : Lib.validD r.bytes
 all_goals
   rw [hvd] at Hval; clear hvd
   go_wp2_with (first
     | (go_at_call 21; go_must (refine (Hhw.out _).mono ?_; rintro e w1 ⟨rfl, hw1⟩; subst hw1))
     | (go_at_call 135; go_must (refine (Hval.out _ hu0.out).mono ?_; rintro e w5 ⟨rfl, hu5⟩; have k0 := hu5.blk hk0.out; have k1 := hu5.blk hk1.out; have hz5 := hu5.size; have q0 := lt_of_block k0; have q1 := lt_of_block k1; have z0 : w5.cell? ⟨w.heap.size, 0, none⟩ = some (.int .i64 0) := cell_of_row w5 _ 0 _ _ _ k0; have z1 : w5.cell? ⟨w.heap.size, 1, none⟩ = some (.slice none 0 0) := cell_of_row w5 _ 1 _ _ _ k0; have z2 : w5.cell? ⟨w.heap.size, 2, none⟩ = some (.slice none 0 0) := cell_of_row w5 _ 2 _ _ _ k0; have z3 : w5.cell? ⟨w.heap.size, 3, none⟩ = some (.slice none 0 0) := cell_of_row w5 _ 3 _ _ _ k0; have y0 : w5.cell? ⟨w.heap.size + 1, 0, none⟩ = some (.int .i64 x.number) := cell_of_row w5 _ 0 _ _ _ k1; have y1 : w5.cell? ⟨w.heap.size + 1, 1, none⟩ = some (.slice none 0 0) := cell_of_row w5 _ 1 _ _ _ k1; have y2 : w5.cell? ⟨w.heap.size + 1, 2, none⟩ = some (.slice none 0 0) := cell_of_row w5 _ 2 _ _ _ k1; have y3 : w5.cell? ⟨w.heap.size + 1, 3, none⟩ = some (.slice none 0 0) := cell_of_row w5 _ 3 _ _ _ k1; have f0 : ∀ o, w5.frozen? ⟨w.heap.size, o, none⟩ = false := (fun o => frozen_of_row w5 _ o _ _ k0); have f1 : ∀ o, w5.frozen? ⟨w.heap.size + 1, o, none⟩ = false := (fun o => frozen_of_row w5 _ o _ _ k1); have g35 := hu5.cell_some H3.out; have Hu5 := hid (hu0.out.trans hu5); have Hz5 := hid hz5; clear k0 k1 hu5 hz5)))
   first
     | (refine bodyPost_ret (v := .tuple #[.agg #[.int .i64 x.number, .slice none 0 0, .slice none 0 0, .slice none 0 0], .bool false, .int .i64 9]) (by simp [results, Tryz.results70, go_sem, z0, z1, z2, z3]) rfl ?_
        refine ⟨_, rfl, rdS_nil _ _ _ _, ?_⟩; repeat (with_reducible refine Up.setCell ?_ ?_ _)
        · exact Hu5.out
        all_goals simp)
     | (have ne0 : w.heap.size ≠ w5.heap.size := by omega
        (have ne1 : w.heap.size + 1 ≠ w5.heap.size := by omega); refine bodyPost_ret (v := .tuple #[.agg #[.int .i64 x.number, .slice none 0 0, .slice (some ⟨w5.heap.size, 0, none⟩) 1 1, .slice none 0 0], .bool true, .int .i64 0]) (by simp [results, Tryz.results70, go_sem, z0, z1, z2, z3, q0]) rfl ?_; refine ⟨_, rfl, rdS_bytes1 _ _ a3 c3 r.bytes ((Hr.out.keep stable_u8 (SVal.keep Hu5.out)).keep stable_u8 ?_) hbl _ _ (by simp) (.inr (by have := Hz5.out; simp at this; omega)), ?_⟩
        · repeat (with_reducible refine Keep.trans ?_ (Keep.setCell ?_ _))
          · exact Keep.weak (fun k hk => hk)
          all_goals (show ¬ ((S _ ∧ _ < w.heap.size) ∨ w.heap.size + 2 ≤ _); simp)
        · refine Up.alloc ?_ _; repeat (with_reducible refine Up.setCell ?_ ?_ _)
          · exact Hu5.out
          all_goals simp)
end Go.Proofs.YtbceapeoknngnaaGreatDoor
namespace Go.Proofs.YtbceapeoknngnaaGreatDoor
open Go.RowKit
set_option maxRecDepth 100000
set_option maxHeartbeats 800000 in
theorem fits_any (kind : Int) (n : Nat) (w : World) (hn : n < 2 ^ 64) :
   Calls Tryz.prog 174 #[.int .i64 kind, .int .u64 n] w fun e w' => e = .returned (.int .i64 (fitsN kind n)) ∧ w' = w := by
 go_enter Tryz.func174, Tryz.ntmps174
 go_wp2_with fail
 all_goals
   go_ret
   refine ⟨ret_int ?_, rfl⟩; unfold fitsN; simp only [beq_iff_eq, beq_eq_false_iff_ne, ne_eq, bne_iff_ne, bne_eq_false_iff_eq, IntKind.wrap_u64, wrap64, wrap32] at *
   (repeat' split) <;> omega
open Lib (hid)
set_option maxHeartbeats 800000 in
theorem find_msg_p (s : List UInt8) (b : Nat) (x : Msg) (cs : List Value) (w : World) (hb : b < w.heap.size) (hc : w.cell? ⟨b, 0, none⟩ = some (.string ⟨s.toArray⟩)) (hd : DMsg All w x cs) :
   Calls Tryz.prog 146 (#[.agg cs.toArray] ++ #[.pointer (some ⟨b, 0, none⟩)]) w fun e w' => e = .returned (.bool (x.name == s)) ∧ Up w w' := by
 obtain ⟨vf, vb, hd, _, _, _⟩ := hd; subst hd; show Calls Tryz.prog 146 #[.agg #[.string ⟨x.name.toArray⟩, vf, vb], .pointer (some ⟨b, 0, none⟩)] w _; have hne : b ≠ w.heap.size := by omega
 go_enter Tryz.func146, Tryz.ntmps146
 go_wp2_with fail
 go_ret
 exact ⟨ret_bool (by simp), (Up.refl w).alloc _⟩
set_option maxHeartbeats 800000 in
theorem find_msg_l (v : Value) (f : Fil) (s : List UInt8) (w : World) (hv : FilV All w v f) :
   Calls Tryz.prog 81 #[v, .string ⟨s.toArray⟩] w fun e w' => e = .returned (.int .i64 (idxP (fun x => x.name == s) f.msgs)) ∧ Up w w' := by
 obtain ⟨vm, ve, rfl, hm, he⟩ := hv; have Hm := hid hm; have He := hid he; clear hm he
 go_enter Tryz.func81, Tryz.ntmps81
 (go_wp2_with fail); have hu : Up w ((w.alloc (.cells #[vm, ve] 25)).alloc (.cells #[.string ⟨s.toArray⟩] 9)) := ((Up.refl w).alloc _).alloc _
 have hc : ((w.alloc (.cells #[vm, ve] 25)).alloc (.cells #[.string ⟨s.toArray⟩] 9)).cell? ⟨w.heap.size + 1, 0, none⟩ = some (.string ⟨s.toArray⟩) :=
   cell_of_row _ _ 0 _ _ _ (blk_new (w.alloc (.cells #[vm, ve] 25)) (.cells #[.string ⟨s.toArray⟩] 9) (g := w.heap.size + 1) (by simp))
 (have hz : w.heap.size + 1 < ((w.alloc (.cells #[vm, ve] 25)).alloc (.cells #[.string ⟨s.toArray⟩] 9)).heap.size := by simp); generalize (w.alloc (.cells #[vm, ve] 25)).alloc (.cells #[.string ⟨s.toArray⟩] 9) = w1 at *; refine (indexF_msg _ _ (fun x => x.name == s) 146 (enters_of Tryz.func146 (by kernel_rfl) rfl) #[.pointer (some ⟨w.heap.size + 1, 0, none⟩)] w1 (Hm.out.up stable_msg hu) (fun x cs wr _ hwr hd => find_msg_p s _ x cs wr (Nat.lt_of_lt_of_le hz hwr.size) (hwr.cell_some hc) hd)).mono ?_; rintro e w2 ⟨rfl, hu2⟩; go_wp2_with fail
 go_ret
 exact ⟨rfl, hu.trans hu2⟩
set_option maxHeartbeats 800000 in
theorem find_enu_p (s : List UInt8) (b : Nat) (x : Enu) (cs : List Value) (w : World) (hb : b < w.heap.size) (hc : w.cell? ⟨b, 0, none⟩ = some (.string ⟨s.toArray⟩)) (hd : DEnu All w x cs) :
   Calls Tryz.prog 148 (#[.agg cs.toArray] ++ #[.pointer (some ⟨b, 0, none⟩)]) w fun e w' => e = .returned (.bool (x.name == s)) ∧ Up w w' := by
 obtain ⟨vf, hd, _, _⟩ := hd; subst hd; show Calls Tryz.prog 148 #[.agg #[.string ⟨x.name.toArray⟩, vf], .pointer (some ⟨b, 0, none⟩)] w _; have hne : b ≠ w.heap.size := by omega
 go_enter Tryz.func148, Tryz.ntmps148
 go_wp2_with fail
 go_ret
 exact ⟨ret_bool (by simp), (Up.refl w).alloc _⟩
set_option maxHeartbeats 800000 in
theorem find_enu_l (v : Value) (f : Fil) (s : List UInt8) (w : World) (hv : FilV All w v f) :
   Calls Tryz.prog 82 #[v, .string ⟨s.toArray⟩] w fun e w' => e = .returned (.int .i64 (idxP (fun x => x.name == s) f.enums)) ∧ Up w w' := by
 obtain ⟨vm, ve, rfl, hm, he⟩ := hv; have Hm := hid hm; have He := hid he; clear hm he
 go_enter Tryz.func82, Tryz.ntmps82
 (go_wp2_with fail); have hu : Up w ((w.alloc (.cells #[vm, ve] 25)).alloc (.cells #[.string ⟨s.toArray⟩] 9)) := ((Up.refl w).alloc _).alloc _
 have hc : ((w.alloc (.cells #[vm, ve] 25)).alloc (.cells #[.string ⟨s.toArray⟩] 9)).cell? ⟨w.heap.size + 1, 0, none⟩ = some (.string ⟨s.toArray⟩) :=
   cell_of_row _ _ 0 _ _ _ (blk_new (w.alloc (.cells #[vm, ve] 25)) (.cells #[.string ⟨s.toArray⟩] 9) (g := w.heap.size + 1) (by simp))
 (have hz : w.heap.size + 1 < ((w.alloc (.cells #[vm, ve] 25)).alloc (.cells #[.string ⟨s.toArray⟩] 9)).heap.size := by simp); generalize (w.alloc (.cells #[vm, ve] 25)).alloc (.cells #[.string ⟨s.toArray⟩] 9) = w1 at *; refine (indexF_enu _ _ (fun x => x.name == s) 148 (enters_of Tryz.func148 (by kernel_rfl) rfl) #[.pointer (some ⟨w.heap.size + 1, 0, none⟩)] w1 (He.out.up stable_enu hu) (fun x cs wr _ hwr hd => find_enu_p s _ x cs wr (Nat.lt_of_lt_of_le hz hwr.size) (hwr.cell_some hc) hd)).mono ?_; rintro e w2 ⟨rfl, hu2⟩; go_wp2_with fail
 go_ret
 exact ⟨rfl, hu.trans hu2⟩
def FilAt (w : World) (fb : Nat) (f : Fil) : Prop := ∃ vm ve, w.cell? ⟨fb, 0, none⟩ = some vm ∧ w.cell? ⟨fb, 1, none⟩ = some ve ∧ FilV All w (.agg #[vm, ve]) f
theorem FilAt.up {w w' : World} {fb : Nat} {f : Fil} (h : FilAt w fb f) (u : Up w w') : FilAt w' fb f := by
 obtain ⟨vm, ve, h1, h2, h3⟩ := h; exact ⟨vm, ve, u.cell_some h1, u.cell_some h2, h3.up u⟩
def ChkAt (w : World) (cb fb : Nat) (f : Fil) : Prop := w.cell? ⟨cb, 0, none⟩ = some (.pointer (some ⟨fb, 0, none⟩)) ∧ FilAt w fb f
theorem ChkAt.up {w w' : World} {cb fb : Nat} {f : Fil} (h : ChkAt w cb fb f) (u : Up w w') : ChkAt w' cb fb f := ⟨u.cell_some h.1, h.2.up u⟩
def BodAt (d : Nat) (w : World) (b o : Nat) (x : Bod) : Prop := ∃ vv vu, w.cell? ⟨b, o, none⟩ = some vv ∧ w.cell? ⟨b, o + 1, none⟩ = some vu ∧ DBodF d All w x [vv, vu]
theorem BodAt.up {d : Nat} {w w' : World} {b o : Nat} {x : Bod} (h : BodAt d w b o x) (u : Up w w') : BodAt d w' b o x := by
 obtain ⟨vv, vu, h1, h2, h3⟩ := h; exact ⟨vv, vu, u.cell_some h1, u.cell_some h2, stable_bod d _ _ _ _ _ _ (Keep.upS u) h3⟩
abbrev BodyC (k d : Nat) (f : Fil) : Prop := ∀ (msg : Int) (x : Bod) (cb fb b o : Nat) (w : World), 0 ≤ msg → msg < f.msgs.length → ChkAt w cb fb f → BodAt d w b o x → Tabs w →
 Calls Tryz.prog 56 #[.pointer (some ⟨cb, 0, none⟩), .int .i64 msg, .pointer (some ⟨b, o, none⟩), .int .i64 (13 - k)] w fun e w' => e = .returned (.int .i64 (wrongB f k msg x)) ∧ Up w w'
set_option maxHeartbeats 6400000 in
theorem value_step (k d : Nat) (f : Fil) (ih : BodyC k d f) (hk : k ≤ 12) (x : Fld) (v : Val) (cb fb bf of b o : Nat) (a1 a2 a3 : Option Addr) (c1 c2 c3 : Nat) (w : World) (hc : ChkAt w cb fb f) (hx : FldAt w bf of x) (hv : ValAt w b o v a1 a2 a3 c1 c2 c3)
   (hd : DValD d All w v [.int .i64 v.1, .slice a1 v.2.1.length c1, .slice a2 v.2.2.1.length c2, .slice a3 v.2.2.2.length c3]) (ht : typedN f x = 0) (hT : Tabs w) :
   Calls Tryz.prog 104 #[.pointer (some ⟨cb, 0, none⟩), .pointer (some ⟨bf, of, none⟩), .pointer (some ⟨b, o, none⟩), .int .i64 (12 - k)] w fun e w' => e = .returned (.int .i64 (wrongVF (wrongB f k) f x v)) ∧ Up w w' := by
 have Ih := hid ih; obtain ⟨p1, g1, p2, g2, p3, g3, he, hn, hx1, hx2, hx3, zx⟩ := val_cells hd; simp only [List.cons.injEq, Value.slice.injEq, true_and, and_true] at he; obtain ⟨⟨rfl, rfl⟩, ⟨rfl, rfl⟩, rfl, rfl⟩ := he; have Hc := hid hc; have Hx := hid hx; have Hv := hid hv; have Hz := hid zx; have HT := hid hT; have Hx1 := hid hx1; have Hx2 := hid hx2; have Hx3 := hid hx3; have hzz := zx; obtain ⟨zb, zy, zs⟩ := zx; have hkd : w.cell? ⟨bf, of + 2, none⟩ = some (.int .i64 x.kind) := hx.2.1.2.2.1; have hmn : w.cell? ⟨bf, of + 4, none⟩ = some (.bool x.many) := hx.2.1.2.2.2.2.1; have hch : w.cell? ⟨bf, of + 5, none⟩ = some (.int .i64 x.choice) := hx.2.1.2.2.2.2.2; have Hcn := hid (fun W (u : Up w W) => count_any x.kind b o v a1 a2 a3 c1 c2 c3 W (hv.up u) hzz); have Hpl := hid (fun W (u : Up w W) => plain_any x bf of b o v a1 a2 a3 c1 c2 c3 W (u.cell_some hkd) (u.cell_some hmn) (u.cell_some hch) (hv.up u) (hx1.up stable_u64 u) (hx2.up stable_bytes u)); obtain ⟨ANS, hw⟩ : ∃ ANS, wrongVF (wrongB f k) f x v = ANS := ⟨_, rfl⟩; rw [hw]; unfold wrongVF at hw
 have hcb : (countN x.kind v).1 * 8 ≤ 140737488355328 := by
   unfold countN; split
   · simp only; omega
   · split
     · simp only; omega
     · simp only; omega
 (have h16 : IntKind.i64.wrap ((12 : Int) - (k : Int) + 1) = 13 - (k : Int) := by rw [IntKind.wrap_i64]; omega); have hty := typed_facts ht
 have hk10 : (countN x.kind v).2 = true → 0 < v.2.2.2.length → 0 ≤ msgI f x.type := by
   intro h1 h2; refine hty.2.2.1 ?_; unfold countN at h1; split at h1
   · simp only [beq_iff_eq] at h1; omega
   · split at h1
     · assumption
     · simp only [beq_iff_eq] at h1; omega
 have Hk10 := hid hk10; clear hk10; generalize countN x.kind v = cn at *; obtain ⟨n, ok⟩ := cn; generalize plainN x v = pl at *; clear hc hx hv hd hx1 hx2 hx3 hT hzz ih; simp only at hw hcb Hcn; have Hch := hid hch; have Hkd := hid hkd; clear hch
 go_enter Tryz.func104, Tryz.ntmps104
 (go_wp2_with fail); refine (Hcn.out _ (Up.refl _)).mono ?_; rintro e w1 ⟨rfl, hu1⟩; have hmn := hu1.cell_some hmn; have hkd := hu1.cell_some hkd
 cases ok with
 | false =>
   rw [if_pos rfl] at hw; go_wp2_with fail
   go_ret
   exact ⟨ret_int hw, hu1⟩
 | true =>
 rw [if_neg (by decide)] at hw
 by_cases hmc : n < 1 ∨ 60 < n ∨ (x.many = false ∧ 1 < n)
 · rw [if_pos hmc] at hw; have Hu1 := hid hu1
   have hm3 : (n : Int) < 1 ∨ (¬ (n : Int) < 1 ∧ (60 : Int) < n) ∨ (¬ (n : Int) < 1 ∧ ¬ (60 : Int) < n ∧ x.many = false ∧ (1 : Int) < n) := by
     by_cases g1 : n < 1
     · exact .inl (by omega)
     · by_cases g2 : 60 < n
       · exact .inr (.inl ⟨by omega, by omega⟩)
       · rcases hmc with h | h | ⟨h, h'⟩
         · omega
         · omega
         · exact .inr (.inr ⟨by omega, by omega, h, by omega⟩)
   rcases hm3 with h | ⟨h, h2⟩ | ⟨h, h2, h3, h4⟩
   · clear hu1 hmc; go_wp2_with fail
     go_ret
     exact ⟨ret_int hw, Hu1.out⟩
   · clear hu1 hmc; go_wp2_with fail
     go_ret
     exact ⟨ret_int hw, Hu1.out⟩
   · clear hu1 hmc; rw [h3] at hmn; go_wp2_with fail
     go_ret
     exact ⟨ret_int hw, Hu1.out⟩
 rw [if_neg hmc] at hw; (have n1 : ¬ (n : Int) < 1 := by omega); have n2 : ¬ (60 : Int) < (n : Int) := by omega
 have n3 : (x.many = true) ∨ (x.many = false ∧ ¬ (1 : Int) < (n : Int)) := by
   cases h : x.many with
   | true => exact .inl rfl
   | false => exact .inr ⟨rfl, fun g => hmc (.inr (.inr ⟨h, by omega⟩))⟩
 clear hmc; have Hpl1 := hid (Hpl.out w1 hu1); have Hu1 := hid hu1; have Hw := hid hw; clear hu1 hw; rcases n3 with h | ⟨h, h2⟩
 all_goals
   rw [h] at hmn; (go_wp2_with fail); refine Hpl1.out.mono ?_; rintro e w2 ⟨rfl, hu2⟩; have hw := Hw.out; have hu2 := Hu1.out.trans hu2
 all_goals
   have hv0 := Hv.out.up hu2; obtain ⟨v0, v1, v2, v3⟩ := hv0
   cases pl with
   | true =>
     rw [if_pos rfl] at hw; go_wp2_with fail
     go_ret
     exact ⟨ret_int hw, hu2⟩
   | false =>
   rw [if_neg (by decide)] at hw; have Hu2 := hid hu2; have Hw2 := hid hw; clear hu2 hw Hw hmn v0 v2 v3 hkd; (go_wp2_with fail); clear v1; (go_loopw [57] (fun i wr => ∃ k2 : Nat, k2 ≤ v.2.1.length ∧ i = .int .i64 k2 ∧ Up w wr ∧ ∀ j, (hj : j < v.2.1.length) → j < k2 → fitsN x.kind v.2.1[j] = 0) (fun i _ => v.2.1.length - (intOf i).toNat)); case atStart => exact ⟨0, by omega, rfl, Hu2.out, fun j _ h => absurd h (by omega)⟩
   case round =>
     clear Hu2; obtain ⟨k2, hk2, rfl, hu, hg⟩ := hrel; have Hg := hid hg; clear hg
     by_cases hlt : k2 < v.2.1.length
     · obtain ⟨b1, o1, cs, rfl, _, _, hcs, hd⟩ := (Hx1.out.up stable_u64 hu).at hlt; obtain ⟨rfl, hn64⟩ := hd; have n0 := hcs 0 _ rfl; simp only [Nat.add_zero, Nat.mul_one] at n0; have kd := hu.cell_some Hkd.out; have Hfit := hid (fits_any x.kind v.2.1[k2] wr hn64); have Hgg := hid (fun e => firstN_map_at (q := fitsN x.kind) hlt Hg.out e); have Hgn := hid (fun (e : fitsN x.kind v.2.1[k2] = 0) => zero_more' hlt Hg.out e); (have k20 : (0 : Int) ≤ (k2 : Int) := by omega); (have k21 : (k2 : Int) < (v.2.1.length : Int) := by omega); have Hu := hid hu; clear hcs hu; generalize v.2.1[k2] = q at *; (go_wp2_with fail); refine Hfit.out.mono ?_; rintro e w3 ⟨rfl, h3⟩; subst h3; clear n0 kd
       by_cases hf : fitsN x.kind q = 0
       · rw [hf]; go_wp2_with fail
         go_roundw
         (case rel => exact ⟨k2 + 1, by omega, by go_num, Hu.out, Hgn.out hf⟩); case measure => simp [intOf]; omega
       · have hans : fitsN x.kind q = ANS := by
           have := Hgg.out hf; rw [← Hw2.out, if_pos (by rw [this]; exact hf), this]
         generalize fitsN x.kind q = er at *; go_wp2_with fail
         go_ret
         exact ⟨ret_int (by first | rfl | exact hans), Hu.out⟩
     · have hw := Hw2.out; rw [if_neg (by rw [firstN_map_none (fun j hj => Hg.out j hj (by omega))]; decide)] at hw; have v2 := (Hv.out.up hu).2.2.1; have Hw3 := hid hw; have Hu := hid hu; clear hw Hw2 Hg hu; (go_wp2_with fail); clear v2; (go_loopw [76] (fun i wr => ∃ k2 : Nat, k2 ≤ v.2.2.1.length ∧ i = .int .i64 k2 ∧ Up w wr ∧ ∀ j, (hj : j < v.2.2.1.length) → j < k2 → byteN x.kind v.2.2.1[j] = 0) (fun i _ => v.2.2.1.length - (intOf i).toNat)); case atStart => exact ⟨0, by omega, rfl, Hu.out, fun j _ h => absurd h (by omega)⟩
       case round =>
         clear Hu; obtain ⟨k3, hk3, rfl, hu, hg⟩ := hrel; have Hg := hid hg; clear hg
         by_cases hlt3 : k3 < v.2.2.1.length
         · obtain ⟨b1, o1, cs, rfl, _, _, hcs, hd⟩ := (Hx2.out.up stable_bytes hu).at hlt3; obtain ⟨vy, hd, hr, hyz⟩ := hd; subst hd; obtain ⟨ya, yc, rfl, _, _⟩ := hr.val; have n0 := hcs 0 _ rfl; simp only [Nat.add_zero, Nat.mul_one] at n0; have kd := hu.cell_some Hkd.out; have Hval := hid (valid_b _ _ wr hr (HT.out.up hu)); have Hgg := hid (fun e => firstN_map_at (q := byteN x.kind) hlt3 Hg.out e); have Hgn := hid (fun (e : byteN x.kind v.2.2.1[k3] = 0) => zero_more' hlt3 Hg.out e); (have k30 : (0 : Int) ≤ (k3 : Int) := by omega); (have k31 : (k3 : Int) < (v.2.2.1.length : Int) := by omega); have Hu := hid hu; clear hcs hu hr; generalize v.2.2.1[k3] = q at *
           by_cases hlong : (4000 : Int) < (q.length : Int)
           · have hb4 : byteN x.kind q = 4 := by unfold byteN; rw [if_pos (by omega)]
             have hans : (4 : Int) = ANS := by
               have := Hgg.out (by rw [hb4]; decide); rw [← Hw3.out, if_pos (by rw [this, hb4]; decide), this, hb4]
             clear hb4; go_wp2_with fail
             go_ret
             exact ⟨ret_int hans, Hu.out⟩
           by_cases hk8 : x.kind = 8
           · have hke : (x.kind == 8) = true := by simp [hk8]
             cases hvd : Lib.validD q with
             | true =>
               rw [hvd] at Hval; (have hb0 : byteN x.kind q = 0 := by unfold byteN; rw [if_neg (by omega), if_neg (by rw [hvd]; simp)]); have Hb0 := hid hb0; clear hb0 hk8; (go_wp2_with fail); refine Hval.out.mono ?_; rintro e w3 ⟨rfl, hu3⟩; have Hu3 := hid (Hu.out.trans hu3); clear hu3; go_wp2_with fail
               go_roundw
               (case rel => exact ⟨k3 + 1, by omega, by go_num, Hu3.out, Hgn.out Hb0.out⟩); case measure => simp [intOf]; omega
             | false =>
               rw [hvd] at Hval; have hb9 : byteN x.kind q = 9 := by unfold byteN; rw [if_neg (by omega), if_pos ⟨hk8, hvd⟩]
               have hans : (9 : Int) = ANS := by
                 have := Hgg.out (by rw [hb9]; decide); rw [← Hw3.out, if_pos (by rw [this, hb9]; decide), this, hb9]
               clear hb9 hk8; (go_wp2_with fail); refine Hval.out.mono ?_; rintro e w3 ⟨rfl, hu3⟩; have Hu3 := hid (Hu.out.trans hu3); clear hu3; go_wp2_with fail
               go_ret
               exact ⟨ret_int hans, Hu3.out⟩
           · (have hke : (x.kind == 8) = false := by simpa using hk8); (have hb0 : byteN x.kind q = 0 := by unfold byteN; rw [if_neg (by omega), if_neg (fun h => hk8 h.1)]); have Hb0 := hid hb0; clear hb0 hk8; go_wp2_with fail
             go_roundw
             (case rel => exact ⟨k3 + 1, by omega, by go_num, Hu.out, Hgn.out Hb0.out⟩); case measure => simp [intOf]; omega
         · have hw := Hw3.out; rw [if_neg (by rw [firstN_map_none (fun j hj => Hg.out j hj (by omega))]; decide)] at hw; have v3 := (Hv.out.up hu).2.2.2; have Hw4 := hid hw; have Hu := hid hu; clear hw Hw3 Hg hu; (go_wp2_with fail); clear v3; (go_loopw [99] (fun i wr => ∃ k2 : Nat, k2 ≤ v.2.2.2.length ∧ i = .int .i64 k2 ∧ Up w wr ∧ ∀ j, (hj : j < v.2.2.2.length) → j < k2 → wrongB f k (msgI f x.type) v.2.2.2[j] = 0) (fun i _ => v.2.2.2.length - (intOf i).toNat)); case atStart => exact ⟨0, by omega, rfl, Hu.out, fun j _ h => absurd h (by omega)⟩
           case round =>
             clear Hu; obtain ⟨k4, hk4, rfl, hu, hg⟩ := hrel; have Hg := hid hg; clear hg
             by_cases hlt4 : k4 < v.2.2.2.length
             · have hmi := Hk10.out trivial (by omega); have hmb := msgI_bd f x.type; (have hmb2 : msgI f x.type < f.msgs.length := by omega); obtain ⟨b1, o1, cs, rfl, _, _, hcs, hd⟩ := (Hx3.out.up (stable_bod d) hu).at hlt4; obtain ⟨m1, r1, s1, m2, r2, s2, rfl⟩ := bod_two hd; have n0 := hcs 0 _ rfl; have n1' := hcs 1 _ rfl; simp only [Nat.add_zero] at n0; have hba : BodAt d wr b1 (o1 + k4 * 2) v.2.2.2[k4] := ⟨_, _, n0, n1', hd⟩; obtain ⟨hcc, vm, ve, hcm, hce, hfv⟩ := Hc.out.up hu; obtain ⟨vm', ve', he', hm', he''⟩ := id hfv; simp only [Value.agg.injEq, Array.mk.injEq, List.cons.injEq, and_true] at he'; obtain ⟨rfl, rfl⟩ := he'; obtain ⟨ma, mc, rfl, _, _⟩ := hm'.val; obtain ⟨ea, ec, rfl, _, _⟩ := he''.val; clear hm' he''; have Hmsg := hid (fun W (u : Up wr W) => find_msg_l (.agg #[.slice ma f.msgs.length mc, .slice ea f.enums.length ec]) f x.type W (hfv.up u)); have Hbc := hid (fun W (u : Up wr W) => Ih.out (msgI f x.type) v.2.2.2[k4] cb fb b1 (o1 + k4 * 2) W hmi hmb2 (Hc.out.up (hu.trans u)) (hba.up u) (HT.out.up (hu.trans u))); have Hgg := hid (fun e => firstN_map_at (q := wrongB f k (msgI f x.type)) hlt4 Hg.out e); have Hgn := hid (fun (e : wrongB f k (msgI f x.type) v.2.2.2[k4] = 0) => zero_more' hlt4 Hg.out e); (have k40 : (0 : Int) ≤ (k4 : Int) := by omega); (have k41 : (k4 : Int) < (v.2.2.2.length : Int) := by omega); have v3 := (Hv.out.up hu).2.2.2; have ty := hu.cell_some Hx.out.2.1.2.2.2.1; have Hu := hid hu; clear hcs hd hba hfv hu hmi hmb hmb2; generalize v.2.2.2[k4] = q at *; change Hid (∀ W, Up wr W → Calls _ _ _ _ fun e w' => e = Ending.returned (.int .i64 (msgI f x.type)) ∧ Up W w') at Hmsg; generalize msgI f x.type = mi at *; obtain ⟨wq, rfl⟩ : ∃ wq : World, wq = wr := ⟨_, rfl⟩; generalize hER : wrongB f k mi q = ER at *
               go_upto_region 26 with (fail)
               have dd : wq.drew.cell? ⟨cb, 0, none⟩ = some (.pointer (some ⟨fb, 0, none⟩)) ∧ wq.drew.cell? ⟨fb, 0, none⟩ = some (.slice ma f.msgs.length mc) ∧ wq.drew.cell? ⟨fb, 1, none⟩ = some (.slice ea f.enums.length ec) ∧ wq.drew.cell? ⟨b, o + 3, none⟩ = some (.slice (some ⟨b1, o1, none⟩) v.2.2.2.length c3) ∧ wq.drew.cell? ⟨bf, of + 3, none⟩ = some (.string ⟨x.type.toArray⟩) := ⟨hcc, hcm, hce, v3, ty⟩; have DD := hid (fun W (u : Up wq W) => (⟨u.cell_some hcc, u.cell_some hcm, u.cell_some hce, u.cell_some v3, u.cell_some ty⟩ : W.cell? ⟨cb, 0, none⟩ = some (.pointer (some ⟨fb, 0, none⟩)) ∧ W.cell? ⟨fb, 0, none⟩ = some (.slice ma f.msgs.length mc) ∧ W.cell? ⟨fb, 1, none⟩ = some (.slice ea f.enums.length ec) ∧ W.cell? ⟨b, o + 3, none⟩ = some (.slice (some ⟨b1, o1, none⟩) v.2.2.2.length c3) ∧ W.cell? ⟨bf, of + 3, none⟩ = some (.string ⟨x.type.toArray⟩)))
               go_region_held3 (fun w' => w'.cell? ⟨cb, 0, none⟩ = some (.pointer (some ⟨fb, 0, none⟩)) ∧ w'.cell? ⟨fb, 0, none⟩ = some (.slice ma f.msgs.length mc) ∧ w'.cell? ⟨fb, 1, none⟩ = some (.slice ea f.enums.length ec) ∧ w'.cell? ⟨b, o + 3, none⟩ = some (.slice (some ⟨b1, o1, none⟩) v.2.2.2.length c3) ∧ w'.cell? ⟨bf, of + 3, none⟩ = some (.string ⟨x.type.toArray⟩))
                 (first | with_reducible exact dd | with_reducible exact DD.out _ hu5 | with_reducible exact DD.out _ hu6)
                 (first | (go_at_call 81; refine (Hmsg.out _ (Up.refl wq).drew).mono ?_; rintro e w5 ⟨rfl, hu5'⟩; have hu5 := ((Up.refl wq).drew).trans hu5') | (go_at_call 56; refine (Hbc.out _ hu5).mono ?_; rintro e w6 ⟨rfl, hu6'⟩; have hu6 := hu5.trans hu6'))
               all_goals
                 have HU := hid (Hu.out.trans hu6); clear hu6 hu6' hu5 hu5' dd DD hER
                 by_cases hf : ER = 0
                 · subst hf; go_wp2_with fail
                   go_roundw
                   (case rel => exact ⟨k4 + 1, by omega, by go_num, HU.out, Hgn.out rfl⟩); case measure => simp [intOf]; omega
                 · (have hans : ER = ANS := by rw [← Hw4.out]; exact (Hgg.out hf).symm); go_wp2_with fail
                   go_ret
                   exact ⟨ret_int (by first | rfl | exact hans), HU.out⟩
             · (have hans : 0 = ANS := by rw [← Hw4.out, firstN_map_none (fun j hj => Hg.out j hj (by omega))]); go_wp2_with fail
               go_ret
               exact ⟨ret_int hans, hu⟩
end Go.Proofs.YtbceapeoknngnaaGreatDoor
