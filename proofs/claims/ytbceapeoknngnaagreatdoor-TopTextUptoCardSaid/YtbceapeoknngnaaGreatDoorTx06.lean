/-
  pressref3.Same, of one body twice.
  Rows of the call's own: more about them.
  slices.Clone of bits, bytes (written by gen_clone.py's make).
  body.Own: a body's copy, in blocks of its own.
-/
import Derived.Test.YtbceapeoknngnaaGreatDoorTx05
import Derived.Deep.RegionHeld3
import Derived.Deep.DeepCutAuto
import Derived.WalkSpells
set_option linter.unusedVariables false
namespace Go.Proofs.YtbceapeoknngnaaGreatDoor
open Go.RowKit
set_option maxRecDepth 100000
open Lib (hid)
theorem rec_of_z {S : Nat → Prop} {w : World} {v : Value} {l : List Rec} (h : RdS DRecZ 4 S w v l) : RdS DRec 4 S w v l := h.imp (fun _ _ _ h => h.1)
theorem bod_cells {d : Nat} {S : Nat → Prop} {w : World} {x : Bod} {vv vu : Value} (h : DBodF (d + 1) S w x [vv, vu]) : ∃ a1 c1 a2 c2, vv = .slice a1 x.values.length c1 ∧ vu = .slice a2 x.unknown.length c2 ∧ RdS (DValD d) 4 S w (.slice a1 x.values.length c1) x.values ∧ RdS DRecZ 4 S w (.slice a2 x.unknown.length c2) x.unknown ∧ BodSz x := by
 obtain ⟨v1, v2, he, h1, h2, hz⟩ := h; simp only [List.cons.injEq, and_true] at he; obtain ⟨rfl, rfl⟩ := he; obtain ⟨a1, c1, rfl, _, _⟩ := h1.val; obtain ⟨a2, c2, rfl, _, _⟩ := h2.val; exact ⟨a1, c1, a2, c2, rfl, rfl, h1, h2, hz⟩
theorem bod_two {d : Nat} {S : Nat → Prop} {w : World} {x : Bod} {cs : List Value} (h : DBodF d S w x cs) : ∃ a1 n1 c1 a2 n2 c2, cs = [.slice a1 n1 c1, .slice a2 n2 c2] := by
 cases d with
 | zero => exact h.elim
 | succ d =>
   obtain ⟨v1, v2, rfl, h1, h2, hz⟩ := h; obtain ⟨a1, c1, rfl, _, _⟩ := h1.val; obtain ⟨a2, c2, rfl, _, _⟩ := h2.val; exact ⟨_, _, _, _, _, _, rfl⟩
set_option maxHeartbeats 6400000 in
theorem same_step (d : Nat) (ih : ∀ (x : Bod) (vv vu vv' vu' : Value) (w : World), DBodF d All w x [vv, vu] → DBodF d All w x [vv', vu'] → Calls Tryz.prog 20 #[.agg #[vv, vu], .agg #[vv', vu']] w fun e w' => e = .returned (.bool true) ∧ Up w w')
   (x : Bod) (vv vu vv' vu' : Value) (w : World) (ha : DBodF (d + 1) All w x [vv, vu]) (hb : DBodF (d + 1) All w x [vv', vu']) :
   Calls Tryz.prog 20 #[.agg #[vv, vu], .agg #[vv', vu']] w fun e w' => e = .returned (.bool true) ∧ Up w w' := by
   have Ih := hid ih; clear ih; obtain ⟨a1, c1, a2, c2, rfl, rfl, hv, hu, hz⟩ := bod_cells ha; obtain ⟨b1, e1, b2, e2, rfl, rfl, hv', hu', hz'⟩ := bod_cells hb; have zv := hz.1; clear ha hb hz hz'; have Hv := hid hv; have Hv' := hid hv'; have Hsr := hid (fun wx (k : Up w wx) => same_any _ _ x.unknown x.unknown wx (rec_of_z (hu.up stable_recz k)) (rec_of_z (hu'.up stable_recz k))); clear hv hv' hu hu'; generalize x.unknown = un at *; generalize x.values = vs at *
   go_enter Tryz.func20, Tryz.ntmps20
   (go_wp2_with fail); have hb0 : ((w.alloc (.cells #[.slice a1 vs.length c1, .slice a2 un.length c2] 29)).alloc (.cells #[.slice b1 vs.length e1, .slice b2 un.length e2] 29)).heap[w.heap.size]? = some (.cells #[.slice a1 vs.length c1, .slice a2 un.length c2] 29 (0, 0)) := blk_old _ (blk_new w _ rfl); have hb1 : ((w.alloc (.cells #[.slice a1 vs.length c1, .slice a2 un.length c2] 29)).alloc (.cells #[.slice b1 vs.length e1, .slice b2 un.length e2] 29)).heap[w.heap.size + 1]? = some (.cells #[.slice b1 vs.length e1, .slice b2 un.length e2] 29 (0, 0)) := blk_new (w.alloc _) _ (by simp); have hu0 : Up w ((w.alloc (.cells #[.slice a1 vs.length c1, .slice a2 un.length c2] 29)).alloc (.cells #[.slice b1 vs.length e1, .slice b2 un.length e2] 29)) := ((Up.refl w).alloc _).alloc _; generalize (w.alloc (.cells #[.slice a1 vs.length c1, .slice a2 un.length c2] 29)).alloc (.cells #[.slice b1 vs.length e1, .slice b2 un.length e2] 29) = w1 at *; refine (Hsr.out _ hu0).mono ?_; rintro e w2 ⟨t, rfl, ht, hu2⟩; (obtain rfl : t = true := by simpa using ht); have Hb0 := hid (hu2.blk hb0); have Hb1 := hid (hu2.blk hb1); have Hu2 := hid (hu0.trans hu2); have f0 : w2.cell? ⟨w.heap.size, 0, none⟩ = some (.slice a1 vs.length c1) := cell_of_row w2 _ 0 _ _ _ Hb0.out; clear hb0 hb1 hu0 hu2 Hsr ht; (go_wp2_with fail); clear f0; (go_loopw [29] (fun i wr => ∃ k : Nat, k ≤ vs.length ∧ i = .int .i64 k ∧ Up w2 wr) (fun i _ => vs.length - (intOf i).toNat)); case atStart => exact ⟨0, by omega, rfl, Up.refl _⟩
   case round =>
     obtain ⟨k, hk, rfl, hu⟩ := hrel
     by_cases hlt : k < vs.length
     · have hu20 := Hu2.out.trans hu; obtain ⟨b, o, cs, rfl, hb, hl, hcs, hd⟩ := (Hv.out.up (stable_val d) hu20).at hlt; obtain ⟨p1, g1, p2, g2, p3, g3, rfl, _, hx1, hx2, hx3, zx⟩ := val_cells hd; obtain ⟨zb, zy, zs⟩ := zx; obtain ⟨b', o', cs, rfl, hb', hl', hcs', hd'⟩ := (Hv'.out.up (stable_val d) hu20).at hlt; obtain ⟨q1, h1, q2, h2, q3, h3, rfl, _, hy1, hy2, hy3, _⟩ := val_cells hd'; have c0 := hcs 0 _ rfl; have cc1 := hcs 1 _ rfl; have cc2 := hcs 2 _ rfl; have cc3 := hcs 3 _ rfl; have d0 := hcs' 0 _ rfl; have d1 := hcs' 1 _ rfl; have d2 := hcs' 2 _ rfl; have d3 := hcs' 3 _ rfl; simp only [Nat.add_zero] at c0 d0; (have k0 : (0 : Int) ≤ (k : Int) := by omega); (have k1 : (k : Int) < (vs.length : Int) := by omega); have Hx1 := hid hx1; have Hx2 := hid hx2; have Hx3 := hid hx3; have Hy1 := hid hy1; have Hy2 := hid hy2; have Hy3 := hid hy3; clear hcs hcs' hl hl' hd hd' hx1 hx2 hx3 hy1 hy2 hy3 hu20; generalize vs[k] = v at *; obtain ⟨vn, vb, vy, vs2⟩ := v; simp only at c0 cc1 cc2 cc3 d0 d1 d2 d3 zb zy zs Hx1 Hx2 Hx3 Hy1 Hy2 Hy3; obtain ⟨wo, rfl⟩ : ∃ wo : World, wo = wr := ⟨_, rfl⟩; have f1 : wo.cell? ⟨w.heap.size + 1, 0, none⟩ = some (.slice (some ⟨b', o', none⟩) vs.length e1) := cell_of_row wo _ 0 _ _ _ (hu.blk Hb1.out); have Hu := hid hu; clear hu
       go_upto_region 6 with (fail)
       have hy0 : (wo.alloc (.cells #[.int .i64 vn, .slice p1 vb.length g1, .slice p2 vy.length g2, .slice p3 vs2.length g3] 53)).heap[wo.heap.size]? = some (.cells #[.int .i64 vn, .slice p1 vb.length g1, .slice p2 vy.length g2, .slice p3 vs2.length g3] 53 (0, 0)) := blk_new wo _ rfl; have huy : Up wo (wo.alloc (.cells #[.int .i64 vn, .slice p1 vb.length g1, .slice p2 vy.length g2, .slice p3 vs2.length g3] 53)) := (Up.refl wo).alloc _; generalize wo.alloc (.cells #[.int .i64 vn, .slice p1 vb.length g1, .slice p2 vy.length g2, .slice p3 vs2.length g3] 53) = wy at *; have f1 := huy.cell_some f1; have d0 := huy.cell_some d0; have d1 := huy.cell_some d1; have d2 := huy.cell_some d2; have d3 := huy.cell_some d3; have Huy := hid huy; have Hy0 := hid hy0; clear c0 cc1 cc2 cc3 huy hy0
       go_upto_region 7 with (fail)
       have hy0 : (wy.alloc (.cells #[.int .i64 vn, .slice q1 vb.length h1, .slice q2 vy.length h2, .slice q3 vs2.length h3] 53)).heap[wo.heap.size]? = some (.cells #[.int .i64 vn, .slice p1 vb.length g1, .slice p2 vy.length g2, .slice p3 vs2.length g3] 53 (0, 0)) := blk_old _ Hy0.out; have hy1 : (wy.alloc (.cells #[.int .i64 vn, .slice q1 vb.length h1, .slice q2 vy.length h2, .slice q3 vs2.length h3] 53)).heap[wy.heap.size]? = some (.cells #[.int .i64 vn, .slice q1 vb.length h1, .slice q2 vy.length h2, .slice q3 vs2.length h3] 53 (0, 0)) := blk_new wy _ rfl; have huz : Up wo (wy.alloc (.cells #[.int .i64 vn, .slice q1 vb.length h1, .slice q2 vy.length h2, .slice q3 vs2.length h3] 53)) := Huy.out.alloc _; generalize wy.alloc (.cells #[.int .i64 vn, .slice q1 vb.length h1, .slice q2 vy.length h2, .slice q3 vs2.length h3] 53) = wz at *; have y0 : wz.cell? ⟨wo.heap.size, 0, none⟩ = some (.int .i64 vn) := cell_of_row wz _ 0 _ _ _ hy0; have y1 : wz.cell? ⟨wo.heap.size, 1, none⟩ = some (.slice p1 vb.length g1) := cell_of_row wz _ 1 _ _ _ hy0; have y2 : wz.cell? ⟨wo.heap.size, 2, none⟩ = some (.slice p2 vy.length g2) := cell_of_row wz _ 2 _ _ _ hy0; have y3 : wz.cell? ⟨wo.heap.size, 3, none⟩ = some (.slice p3 vs2.length g3) := cell_of_row wz _ 3 _ _ _ hy0; have z0 : wz.cell? ⟨wy.heap.size, 0, none⟩ = some (.int .i64 vn) := cell_of_row wz _ 0 _ _ _ hy1; have z1 : wz.cell? ⟨wy.heap.size, 1, none⟩ = some (.slice q1 vb.length h1) := cell_of_row wz _ 1 _ _ _ hy1; have z2 : wz.cell? ⟨wy.heap.size, 2, none⟩ = some (.slice q2 vy.length h2) := cell_of_row wz _ 2 _ _ _ hy1; have z3 : wz.cell? ⟨wy.heap.size, 3, none⟩ = some (.slice q3 vs2.length h3) := cell_of_row wz _ 3 _ _ _ hy1; have Huz := hid huz; clear hy0 hy1 huz d0 d1 d2 d3 f1 Hy0 Huy; (go_wp2_with fail); (go_loopw [74] (fun i wr => ∃ k : Nat, k ≤ vb.length ∧ i = .int .i64 k ∧ Up wz wr) (fun i _ => vb.length - (intOf i).toNat)); case atStart => exact ⟨0, by omega, rfl, Up.refl _⟩
       case round =>
         obtain ⟨k2, hk2, rfl, hu2⟩ := hrel
         by_cases hlt2 : k2 < vb.length
         · --[
           have huo := Huz.out.trans hu2; obtain ⟨b1, o1, cs, rfl, _, _, hcs, hd⟩ := (Hx1.out.up stable_u64 huo).at hlt2; obtain ⟨rfl, _⟩ := hd; obtain ⟨b2, o2, cs, rfl, _, _, hcs', hd⟩ := (Hy1.out.up stable_u64 huo).at hlt2; obtain ⟨rfl, _⟩ := hd; have n0 := hcs 0 _ rfl; have n1 := hcs' 0 _ rfl; simp only [Nat.add_zero, Nat.mul_one] at n0 n1; have y1 := hu2.cell_some y1; have z1 := hu2.cell_some z1; (have k20 : (0 : Int) ≤ (k2 : Int) := by omega); (have k21 : (k2 : Int) < (vb.length : Int) := by omega); clear hcs hcs' huo; generalize vb[k2] = n at *; go_wp2_with fail
           go_quiet (fail)
           go_wp2_with fail
           go_roundw
           (case rel => exact ⟨k2 + 1, by omega, by go_num, hu2.drewN _⟩); case measure => simp [intOf]; omega
           --]
         · have y2 := hu2.cell_some y2; have z2 := hu2.cell_some z2; have y3 := hu2.cell_some y3; have z3 := hu2.cell_some z3; obtain ⟨wa, rfl⟩ : ∃ wa : World, wa = wr := ⟨_, rfl⟩; have Hua := hid (Huz.out.trans hu2); clear hu2 y0 z0 y1 z1 Huz; (go_wp2_with fail); (go_loopw [92] (fun i wr => ∃ k : Nat, k ≤ vy.length ∧ i = .int .i64 k ∧ Up wa wr) (fun i _ => vy.length - (intOf i).toNat)); case atStart => exact ⟨0, by omega, rfl, Up.refl _⟩
           case round =>
             obtain ⟨k3, hk3, rfl, hu3⟩ := hrel
             by_cases hlt3 : k3 < vy.length
             · --[
               have huo := Hua.out.trans hu3; obtain ⟨b1, o1, cs, rfl, _, _, hcs, hd⟩ := (Hx2.out.up stable_bytes huo).at hlt3; obtain ⟨vy1, hd, hr1, _⟩ := hd; subst hd; obtain ⟨m1, mc1, rfl, _, _⟩ := hr1.val; obtain ⟨b2, o2, cs, rfl, _, _, hcs', hd⟩ := (Hy2.out.up stable_bytes huo).at hlt3; obtain ⟨vy2, hd, hr2, _⟩ := hd; subst hd; obtain ⟨m2, mc2, rfl, _, _⟩ := hr2.val; have n0 := hcs 0 _ rfl; have n1 := hcs' 0 _ rfl; simp only [Nat.add_zero, Nat.mul_one] at n0 n1; have y2 := hu3.cell_some y2; have z2 := hu3.cell_some z2; (have k30 : (0 : Int) ≤ (k3 : Int) := by omega); (have k31 : (k3 : Int) < (vy.length : Int) := by omega); clear hcs hcs' huo; generalize vy[k3] = l at *; have hcr := fun n => run_conv (P := Tryz.prog) (w := wr.drewN n) (hr1.up stable_u8 (Up.drewN (Up.refl wr) n)) 32 5 9 Tryz.underlying32 Tryz.underlying5 Tryz.underlying9; have hcs := fun n => run_conv (P := Tryz.prog) (w := wr.drewN n) (hr2.up stable_u8 (Up.drewN (Up.refl wr) n)) 32 5 9 Tryz.underlying32 Tryz.underlying5 Tryz.underlying9; clear hr1 hr2; go_wp2_with fail
               go_quiet (fail)
               go_wp2_with fail
               go_roundw
               (case rel => exact ⟨k3 + 1, by omega, by go_num, hu3.drewN _⟩); case measure => simp [intOf]; omega
               --]
             · have y3 := hu3.cell_some y3; have z3 := hu3.cell_some z3; obtain ⟨wb, rfl⟩ : ∃ wb : World, wb = wr := ⟨_, rfl⟩; have Hub := hid (Hua.out.trans hu3); clear hu3 y2 z2 Hua; (go_wp2_with fail); (go_loopw [112] (fun i wr => ∃ k : Nat, k ≤ vs2.length ∧ i = .int .i64 k ∧ Up wb wr) (fun i _ => vs2.length - (intOf i).toNat)); case atStart => exact ⟨0, by omega, rfl, Up.refl _⟩
               case round =>
                 obtain ⟨k4, hk4, rfl, hu4⟩ := hrel
                 by_cases hlt4 : k4 < vs2.length
                 · --[
                   have huo := Hub.out.trans hu4; obtain ⟨b1, o1, cs, rfl, _, _, hcs, hd⟩ := (Hx3.out.up (stable_bod d) huo).at hlt4; obtain ⟨m1, r1, s1, m2, r2, s2, rfl⟩ := bod_two hd; obtain ⟨b2, o2, cs, rfl, _, _, hcs', hd'⟩ := (Hy3.out.up (stable_bod d) huo).at hlt4; obtain ⟨m1', r1', s1', m2', r2', s2', rfl⟩ := bod_two hd'; have n0 := hcs 0 _ rfl; have n1 := hcs 1 _ rfl; have n2 := hcs' 0 _ rfl; have n3 := hcs' 1 _ rfl; simp only [Nat.add_zero] at n0 n2; have y3 := hu4.cell_some y3; have z3 := hu4.cell_some z3; (have k40 : (0 : Int) ≤ (k4 : Int) := by omega); (have k41 : (k4 : Int) < (vs2.length : Int) := by omega); have Hs := hid (fun wx (u : Up wr wx) => Ih.out _ _ _ _ _ wx (stable_bod d _ _ _ _ _ _ (Keep.upS u) hd) (stable_bod d _ _ _ _ _ _ (Keep.upS u) hd')); have Hu4 := hid hu4; clear hcs hcs' huo hd hd' hu4; obtain ⟨wq, rfl⟩ : ∃ wq : World, wq = wr := ⟨_, rfl⟩; (go_wp2_with fail); have dy : wq.drew.cell? ⟨wo.heap.size, 3, none⟩ = some (.slice (some ⟨b1, o1, none⟩) vs2.length g3) := y3; have dz : wq.drew.cell? ⟨wy.heap.size, 3, none⟩ = some (.slice (some ⟨b2, o2, none⟩) vs2.length h3) := z3; have e0 : wq.drew.cell? ⟨b1, o1 + k4 * 2, none⟩ = some (.slice m1 r1 s1) := n0; have e1' : wq.drew.cell? ⟨b1, o1 + k4 * 2 + 1, none⟩ = some (.slice m2 r2 s2) := n1; have e2 : wq.drew.cell? ⟨b2, o2 + k4 * 2, none⟩ = some (.slice m1' r1' s1') := n2; have e3 : wq.drew.cell? ⟨b2, o2 + k4 * 2 + 1, none⟩ = some (.slice m2' r2' s2') := n3
                   go_region_held3 (fun w' => w'.cell? ⟨wo.heap.size, 3, none⟩ = some (.slice (some ⟨b1, o1, none⟩) vs2.length g3) ∧ w'.cell? ⟨wy.heap.size, 3, none⟩ = some (.slice (some ⟨b2, o2, none⟩) vs2.length h3) ∧ w'.cell? ⟨b1, o1 + k4 * 2, none⟩ = some (.slice m1 r1 s1) ∧ w'.cell? ⟨b1, o1 + k4 * 2 + 1, none⟩ = some (.slice m2 r2 s2) ∧ w'.cell? ⟨b2, o2 + k4 * 2, none⟩ = some (.slice m1' r1' s1') ∧ w'.cell? ⟨b2, o2 + k4 * 2 + 1, none⟩ = some (.slice m2' r2' s2'))
                     (first | with_reducible exact ⟨dy, dz, e0, e1', e2, e3⟩ | with_reducible exact ⟨hu5.cell_some dy, hu5.cell_some dz, hu5.cell_some e0, hu5.cell_some e1', hu5.cell_some e2, hu5.cell_some e3⟩)
                     (first | (go_at_call 20; refine (Hs.out _ ((Up.refl wq).drew)).mono ?_; rintro e w5 ⟨rfl, hu5⟩))
                   all_goals
                     go_wp2_with fail
                     go_roundw
                     (case rel => exact ⟨k4 + 1, by omega, by go_num, Hu4.out.trans (((Up.refl wq).drew).trans hu5)⟩); case measure => simp [intOf]; omega
                   --]
                 · go_wp2_with fail
                   go_roundw
                   (case rel => exact ⟨k + 1, by omega, by go_num, Hu.out.trans (Hub.out.trans hu4)⟩); case measure => simp [intOf]; omega
     · go_wp2_with fail
       go_ret
       exact ⟨rfl, Hu2.out.trans hu⟩
theorem same_b (d : Nat) : ∀ (x : Bod) (vv vu vv' vu' : Value) (w : World), DBodF d All w x [vv, vu] → DBodF d All w x [vv', vu'] → Calls Tryz.prog 20 #[.agg #[vv, vu], .agg #[vv', vu']] w fun e w' => e = .returned (.bool true) ∧ Up w w' := by
 induction d with
 | zero => intro x vv vu vv' vu' w ha hb; exact ha.elim
 | succ d ih => exact same_step d ih
end Go.Proofs.YtbceapeoknngnaaGreatDoor
namespace Go.Proofs.YtbceapeoknngnaaGreatDoor
open Go.RowKit
def FilSz (f : Fil) : Prop := f.msgs.length * 64 ≤ 140737488355328 ∧ f.enums.length * 40 ≤ 140737488355328 ∧ (∀ m ∈ f.msgs, m.fields.length * 64 ≤ 140737488355328 ∧ m.barred.length * 8 ≤ 140737488355328) ∧ ∀ e ∈ f.enums, e.items.length * 24 ≤ 140737488355328
abbrev No : Nat → Prop := fun _ => False
theorem RdS.lt {α : Type} {D : Lay α} (hD : Stable D) {size : Nat} {w : World} {v : Value} {l : List α} (h : RdS D size All w v l) : RdS D size (Lt w) w v l := h.keep hD (Keep.lt (S := All))
theorem FilV.setCell {S : Nat → Prop} {w : World} {v : Value} {f : Fil} (h : FilV S w v f) {p : Addr} (hp : ¬ S p.block) (u : Value) : FilV S (w.setCell p u) v f := h.keep (Keep.setCell hp u)
theorem FilV.alloc {S : Nat → Prop} {w : World} {v : Value} {f : Fil} (h : FilV S w v f) (o : Obj) : FilV S (w.alloc o) v f := h.keep (Keep.alloc o)
theorem FilV.all {S : Nat → Prop} {w : World} {v : Value} {f : Fil} (h : FilV S w v f) : FilV All w v f := h.keep (Keep.weak (fun _ _ => trivial))
theorem ownsRow_set {w : World} {base : Nat} {e : TypeId} {size g n cap : Nat} {xs : List Value} (h : w.ownsRow base e size (.slice (some ⟨g, 0, none⟩) n cap) n xs) (i : Nat) (u : Value) : (w.setCell ⟨g, i, none⟩ u).ownsRow base e size (.slice (some ⟨g, 0, none⟩) n cap) n (xs.set i u) := by
 refine ⟨by rw [List.length_set]; exact h.1, ?_⟩; rcases h.2 with ⟨h0, _⟩ | ⟨g', cap', cur, hv, hb, hg, hn, hm, hs, ht⟩
 · cases h0
 · simp only [Value.slice.injEq, Option.some.injEq, Addr.mk.injEq, and_true, true_and] at hv; obtain ⟨rfl, rfl⟩ := hv; refine .inr ⟨g, cap, cur.setIfInBounds i u, rfl, hb, heap_setCell_same w g i cur e u hg, hn, hm, by simpa using hs, ?_⟩; rw [Array.toList_setIfInBounds, List.take_set, ht]
theorem flatten_set : ∀ (css : List (List Value)) (size i j : Nat) (u : Value) (cs : List Value), (∀ c ∈ css, c.length = size) → css[i]? = some cs → j < size → css.flatten.set (i * size + j) u = (css.set i (cs.set j u)).flatten
 | [], _, _, _, _, _, _, h, _ => by simp at h
 | c :: css, size, 0, j, u, cs, hs, h, hj => by
   simp at h; subst h; have hc : c.length = size := hs c (by simp); rw [List.flatten_cons, List.set_append_left _ _ (by omega)]; simp
 | c :: css, size, i + 1, j, u, cs, hs, h, hj => by
   have hc : c.length = size := hs c (by simp)
   rw [List.flatten_cons, List.set_append_right _ _ (by rw [hc, Nat.add_mul]; omega), hc, show (i + 1) * size + j - size = i * size + j by rw [Nat.add_mul]; omega,
     flatten_set css size i j u cs (fun c hc => hs c (by simp [hc])) (by simpa using h) hj]
   simp
theorem OwnS.pure {α : Type} {D : Lay α} (hD : ∀ S S' w w' a cs, D S w a cs → D S' w' a cs) {base base' : Nat} {e : TypeId} {size : Nat} {S S' : Nat → Prop} {w : World} {v : Value} {l : List α} (h : OwnS D base e size S w v l) (hb : base' ≤ base) : OwnS D base' e size S' w v l := by
 obtain ⟨css, h1, h2, h3⟩ := h; refine ⟨css, h1, ⟨h2.1, h2.2.imp id (fun ⟨g, cap, cur, hv, hg, r⟩ => ⟨g, cap, cur, hv, Nat.le_trans hb hg, r⟩)⟩, fun i hi => ?_⟩; obtain ⟨cs, h4, h5, h6⟩ := h3 i hi; exact ⟨cs, h4, h5, hD _ _ _ _ _ _ h6⟩
theorem pure_fld : ∀ S S' w w' a cs, DFld S w a cs → DFld S' w' a cs := fun _ _ _ _ _ _ h => h
theorem pure_int : ∀ S S' w w' a cs, DInt S w a cs → DInt S' w' a cs := fun _ _ _ _ _ _ h => h
theorem pure_itm : ∀ S S' w w' a cs, DItm S w a cs → DItm S' w' a cs := fun _ _ _ _ _ _ h => h
theorem own_some {w : World} {base : Nat} {e : TypeId} {size : Nat} {a : Option Addr} {n c n' : Nat} {xs : List Value} (h : w.ownsRow base e size (.slice a n c) n' xs) (hn : 0 < n') : ∃ g, a = some ⟨g, 0, none⟩ ∧ base ≤ g ∧ g < w.heap.size ∧ ∀ o, w.frozen? ⟨g, o, none⟩ = false := by
 rcases h.2 with ⟨_, h0⟩ | ⟨g, cap, cur, hv, hb, hg, _⟩
 · omega
 · simp only [Value.slice.injEq] at hv; exact ⟨g, hv.1, hb, lt_of_block hg, fun o => frozen_of_row w g o _ _ hg⟩
theorem OwnS.lo {α : Type} {D : Lay α} {base : Nat} {e : TypeId} {size : Nat} {S : Nat → Prop} {w : World} {v : Value} {l : List α} (h : OwnS D base e size S w v l) : ∀ j, v.ownBlock = some j → base ≤ j ∧ j < w.heap.size := fun j hj => by
 obtain ⟨css, _, h2, _⟩ := h; exact h2.lt j hj
theorem own_val {w : World} {base : Nat} {e : TypeId} {size : Nat} {v : Value} {n : Nat} {xs : List Value} (h : w.ownsRow base e size v n xs) : ∃ ao cap, v = .slice ao n cap := by
 rcases h.2 with ⟨rfl, rfl⟩ | ⟨g, cap, cur, rfl, _⟩
 · exact ⟨_, _, rfl⟩
 · exact ⟨_, _, rfl⟩
theorem ones_of {α : Type} {D : Lay α} {S : Nat → Prop} {w : World} {l : List α} {size : Nat} {css : List (List Value)} (h1 : ∀ S w a cs, D S w a cs → ∀ u ∈ cs, u.oneCell' = true) (hl : css.length = l.length) (hel : ∀ i, (h : i < l.length) → ∃ cs, css[i]? = some cs ∧ cs.length = size ∧ D S w l[i] cs) : ∀ u ∈ css.flatten, u.oneCell' = true := by
 intro u hu; obtain ⟨cs, hcs, hu⟩ := List.mem_flatten.1 hu; obtain ⟨i, hi, rfl⟩ := List.getElem_of_mem hcs; obtain ⟨cs, h2, _, h3⟩ := hel i (by omega); rw [List.getElem?_eq_getElem hi] at h2; rw [Option.some.inj h2] at hu; exact h1 _ _ _ _ h3 u hu
theorem one_u64c : ∀ S w a cs, DU64 S w a cs → ∀ u ∈ cs, u.oneCell' = true := by
 rintro S w a cs ⟨rfl, _⟩ u hu; simp only [List.mem_cons, List.not_mem_nil, or_false] at hu; rcases hu with rfl; rfl
theorem eU64c : Elem Tryz.prog 50 54 1 8 (.int .u64 0) := ⟨Tryz.underlying50, info_parts (by kernel_rfl), rfl, by decide⟩
theorem eVal : Elem Tryz.prog 26 53 4 80 (.agg #[.int .i64 0, .slice none 0 0, .slice none 0 0, .slice none 0 0]) := ⟨Tryz.underlying26, info_parts (by kernel_rfl), rfl, by decide⟩
theorem eByt : Elem Tryz.prog 49 32 1 24 (.slice none 0 0) := ⟨Tryz.underlying49, info_parts (by kernel_rfl), rfl, by decide⟩
theorem eBod : Elem Tryz.prog 51 29 2 48 (.agg #[.slice none 0 0, .slice none 0 0]) := ⟨Tryz.underlying51, info_parts (by kernel_rfl), rfl, by decide⟩
theorem eRec' : Elem Tryz.prog 27 71 4 48 (.agg #[.int .i64 0, .int .i64 0, .int .u64 0, .slice none 0 0]) := ⟨Tryz.underlying27, info_parts (by kernel_rfl), rfl, by decide⟩
abbrev From (n : Nat) : Nat → Prop := fun b => n ≤ b
theorem DVal.weak {d : Nat} {S S' : Nat → Prop} {w : World} {x : Val} {cs : List Value} (h : DValD d S w x cs) (hs : ∀ k, S k → S' k) : DValD d S' w x cs := stable_val d _ _ _ _ _ _ (Keep.weak hs) h
theorem DBod.weak {d : Nat} {S S' : Nat → Prop} {w : World} {x : Bod} {cs : List Value} (h : DBodF d S w x cs) (hs : ∀ k, S k → S' k) : DBodF d S' w x cs := stable_bod d _ _ _ _ _ _ (Keep.weak hs) h
end Go.Proofs.YtbceapeoknngnaaGreatDoor
