/-
  pressref3.Same, of one body twice.
-/
import Derived.Test.YtplgegffapikoaaDoorPt04
import Derived.Deep.RegionHeld3
import Derived.Deep.DeepCutAuto
set_option linter.unusedVariables false
namespace Go.Proofs.YtplgegffapikoaaDoor
open Go.RowKit
theorem rec_of_z {S : Nat → Prop} {w : World} {v : Value} {l : List Rec} (h : RdS DRecZ 4 S w v l) : RdS DRec 4 S w v l := h.imp (fun _ _ _ h => h.1)
theorem bod_cells {d : Nat} {S : Nat → Prop} {w : World} {x : Bod} {vv vu : Value} (h : DBodF (d + 1) S w x [vv, vu]) : ∃ a1 c1 a2 c2, vv = .slice a1 x.values.length c1 ∧ vu = .slice a2 x.unknown.length c2 ∧ RdS (DValD d) 4 S w (.slice a1 x.values.length c1) x.values ∧ RdS DRecZ 4 S w (.slice a2 x.unknown.length c2) x.unknown ∧ BodSz x := by
  obtain ⟨v1, v2, he, h1, h2, hz⟩ := h
  simp only [List.cons.injEq, and_true] at he
  obtain ⟨rfl, rfl⟩ := he
  obtain ⟨a1, c1, rfl, _, _⟩ := h1.val
  obtain ⟨a2, c2, rfl, _, _⟩ := h2.val
  exact ⟨a1, c1, a2, c2, rfl, rfl, h1, h2, hz⟩
theorem bod_two {d : Nat} {S : Nat → Prop} {w : World} {x : Bod} {cs : List Value} (h : DBodF d S w x cs) : ∃ a1 n1 c1 a2 n2 c2, cs = [.slice a1 n1 c1, .slice a2 n2 c2] := by
  cases d with
  | zero => exact h.elim
  | succ d =>
    obtain ⟨v1, v2, rfl, h1, h2, hz⟩ := h
    obtain ⟨a1, c1, rfl, _, _⟩ := h1.val
    obtain ⟨a2, c2, rfl, _, _⟩ := h2.val
    exact ⟨_, _, _, _, _, _, rfl⟩
set_option maxRecDepth 100000 in
set_option maxHeartbeats 6400000 in
theorem same_step (d : Nat) (ih : ∀ (x : Bod) (vv vu vv' vu' : Value) (w : World), DBodF d All w x [vv, vu] → DBodF d All w x [vv', vu'] → Calls Tryd.prog 10 #[.agg #[vv, vu], .agg #[vv', vu']] w fun e w' => e = .returned (.bool true) ∧ Up w w')
    (x : Bod) (vv vu vv' vu' : Value) (w : World) (ha : DBodF (d + 1) All w x [vv, vu]) (hb : DBodF (d + 1) All w x [vv', vu']) :
    Calls Tryd.prog 10 #[.agg #[vv, vu], .agg #[vv', vu']] w fun e w' => e = .returned (.bool true) ∧ Up w w' := by
    have Ih := Lib.hid ih
    clear ih
    obtain ⟨a1, c1, a2, c2, rfl, rfl, hv, hu, hz⟩ := bod_cells ha
    obtain ⟨b1, e1, b2, e2, rfl, rfl, hv', hu', hz'⟩ := bod_cells hb
    have zv := hz.1
    clear ha hb hz hz'
    have Hv := Lib.hid hv; have Hv' := Lib.hid hv'
    have Hsr := Lib.hid (fun wx (k : Up w wx) => same_any _ _ x.unknown x.unknown wx (rec_of_z (hu.up stable_recz k)) (rec_of_z (hu'.up stable_recz k)))
    clear hv hv' hu hu'
    generalize x.unknown = un at *
    generalize x.values = vs at *
    go_enter Tryd.func10, Tryd.ntmps10
    go_wp2_with fail
    have hb0 : ((w.alloc (.cells #[.slice a1 vs.length c1, .slice a2 un.length c2] 29)).alloc (.cells #[.slice b1 vs.length e1, .slice b2 un.length e2] 29)).heap[w.heap.size]? = some (.cells #[.slice a1 vs.length c1, .slice a2 un.length c2] 29 (0, 0)) := blk_old _ (blk_new w _ rfl)
    have hb1 : ((w.alloc (.cells #[.slice a1 vs.length c1, .slice a2 un.length c2] 29)).alloc (.cells #[.slice b1 vs.length e1, .slice b2 un.length e2] 29)).heap[w.heap.size + 1]? = some (.cells #[.slice b1 vs.length e1, .slice b2 un.length e2] 29 (0, 0)) := blk_new (w.alloc _) _ (by simp)
    have hu0 : Up w ((w.alloc (.cells #[.slice a1 vs.length c1, .slice a2 un.length c2] 29)).alloc (.cells #[.slice b1 vs.length e1, .slice b2 un.length e2] 29)) := ((Up.refl w).alloc _).alloc _
    generalize (w.alloc (.cells #[.slice a1 vs.length c1, .slice a2 un.length c2] 29)).alloc (.cells #[.slice b1 vs.length e1, .slice b2 un.length e2] 29) = w1 at *
    refine (Hsr.out _ hu0).mono ?_
    rintro e w2 ⟨t, rfl, ht, hu2⟩
    obtain rfl : t = true := by simpa using ht
    have Hb0 := Lib.hid (hu2.blk hb0); have Hb1 := Lib.hid (hu2.blk hb1); have Hu2 := Lib.hid (hu0.trans hu2)
    have f0 : w2.cell? ⟨w.heap.size, 0, none⟩ = some (.slice a1 vs.length c1) := cell_of_row w2 _ 0 _ _ _ Hb0.out
    clear hb0 hb1 hu0 hu2 Hsr ht
    go_wp2_with fail
    clear f0
    go_loopw [29] (fun i wr => ∃ k : Nat, k ≤ vs.length ∧ i = .int .i64 k ∧ Up w2 wr) (fun i _ => vs.length - (intOf i).toNat)
    case atStart => exact ⟨0, by omega, rfl, Up.refl _⟩
    case round =>
      obtain ⟨k, hk, rfl, hu⟩ := hrel
      by_cases hlt : k < vs.length
      · have hu20 := Hu2.out.trans hu
        obtain ⟨b, o, cs, rfl, hb, hl, hcs, hd⟩ := (Hv.out.up (stable_val d) hu20).at hlt
        obtain ⟨p1, g1, p2, g2, p3, g3, rfl, _, hx1, hx2, hx3, zx⟩ := val_cells hd
        obtain ⟨zb, zy, zs⟩ := zx
        obtain ⟨b', o', cs, rfl, hb', hl', hcs', hd'⟩ := (Hv'.out.up (stable_val d) hu20).at hlt
        obtain ⟨q1, h1, q2, h2, q3, h3, rfl, _, hy1, hy2, hy3, _⟩ := val_cells hd'
        have c0 := hcs 0 _ rfl; have cc1 := hcs 1 _ rfl; have cc2 := hcs 2 _ rfl; have cc3 := hcs 3 _ rfl
        have d0 := hcs' 0 _ rfl; have d1 := hcs' 1 _ rfl; have d2 := hcs' 2 _ rfl; have d3 := hcs' 3 _ rfl
        simp only [Nat.add_zero] at c0 d0
        have k0 : (0 : Int) ≤ (k : Int) := by omega
        have k1 : (k : Int) < (vs.length : Int) := by omega
        have Hx1 := Lib.hid hx1; have Hx2 := Lib.hid hx2; have Hx3 := Lib.hid hx3
        have Hy1 := Lib.hid hy1; have Hy2 := Lib.hid hy2; have Hy3 := Lib.hid hy3
        clear hcs hcs' hl hl' hd hd' hx1 hx2 hx3 hy1 hy2 hy3 hu20
        generalize vs[k] = v at *
        obtain ⟨vn, vb, vy, vs2⟩ := v
        simp only at c0 cc1 cc2 cc3 d0 d1 d2 d3 zb zy zs Hx1 Hx2 Hx3 Hy1 Hy2 Hy3
        obtain ⟨wo, rfl⟩ : ∃ wo : World, wo = wr := ⟨_, rfl⟩
        have f1 : wo.cell? ⟨w.heap.size + 1, 0, none⟩ = some (.slice (some ⟨b', o', none⟩) vs.length e1) := cell_of_row wo _ 0 _ _ _ (hu.blk Hb1.out)
        have Hu := Lib.hid hu
        clear hu
        go_upto_region 6 with (fail)
        have hy0 : (wo.alloc (.cells #[.int .i64 vn, .slice p1 vb.length g1, .slice p2 vy.length g2, .slice p3 vs2.length g3] 34)).heap[wo.heap.size]? = some (.cells #[.int .i64 vn, .slice p1 vb.length g1, .slice p2 vy.length g2, .slice p3 vs2.length g3] 34 (0, 0)) := blk_new wo _ rfl
        have huy : Up wo (wo.alloc (.cells #[.int .i64 vn, .slice p1 vb.length g1, .slice p2 vy.length g2, .slice p3 vs2.length g3] 34)) := (Up.refl wo).alloc _
        generalize wo.alloc (.cells #[.int .i64 vn, .slice p1 vb.length g1, .slice p2 vy.length g2, .slice p3 vs2.length g3] 34) = wy at *
        have f1 := huy.cell_some f1
        have d0 := huy.cell_some d0; have d1 := huy.cell_some d1; have d2 := huy.cell_some d2; have d3 := huy.cell_some d3
        have Huy := Lib.hid huy; have Hy0 := Lib.hid hy0
        clear c0 cc1 cc2 cc3 huy hy0
        go_upto_region 7 with (fail)
        have hy0 : (wy.alloc (.cells #[.int .i64 vn, .slice q1 vb.length h1, .slice q2 vy.length h2, .slice q3 vs2.length h3] 34)).heap[wo.heap.size]? = some (.cells #[.int .i64 vn, .slice p1 vb.length g1, .slice p2 vy.length g2, .slice p3 vs2.length g3] 34 (0, 0)) := blk_old _ Hy0.out
        have hy1 : (wy.alloc (.cells #[.int .i64 vn, .slice q1 vb.length h1, .slice q2 vy.length h2, .slice q3 vs2.length h3] 34)).heap[wy.heap.size]? = some (.cells #[.int .i64 vn, .slice q1 vb.length h1, .slice q2 vy.length h2, .slice q3 vs2.length h3] 34 (0, 0)) := blk_new wy _ rfl
        have huz : Up wo (wy.alloc (.cells #[.int .i64 vn, .slice q1 vb.length h1, .slice q2 vy.length h2, .slice q3 vs2.length h3] 34)) := Huy.out.alloc _
        generalize wy.alloc (.cells #[.int .i64 vn, .slice q1 vb.length h1, .slice q2 vy.length h2, .slice q3 vs2.length h3] 34) = wz at *
        have y0 : wz.cell? ⟨wo.heap.size, 0, none⟩ = some (.int .i64 vn) := cell_of_row wz _ 0 _ _ _ hy0
        have y1 : wz.cell? ⟨wo.heap.size, 1, none⟩ = some (.slice p1 vb.length g1) := cell_of_row wz _ 1 _ _ _ hy0
        have y2 : wz.cell? ⟨wo.heap.size, 2, none⟩ = some (.slice p2 vy.length g2) := cell_of_row wz _ 2 _ _ _ hy0
        have y3 : wz.cell? ⟨wo.heap.size, 3, none⟩ = some (.slice p3 vs2.length g3) := cell_of_row wz _ 3 _ _ _ hy0
        have z0 : wz.cell? ⟨wy.heap.size, 0, none⟩ = some (.int .i64 vn) := cell_of_row wz _ 0 _ _ _ hy1
        have z1 : wz.cell? ⟨wy.heap.size, 1, none⟩ = some (.slice q1 vb.length h1) := cell_of_row wz _ 1 _ _ _ hy1
        have z2 : wz.cell? ⟨wy.heap.size, 2, none⟩ = some (.slice q2 vy.length h2) := cell_of_row wz _ 2 _ _ _ hy1
        have z3 : wz.cell? ⟨wy.heap.size, 3, none⟩ = some (.slice q3 vs2.length h3) := cell_of_row wz _ 3 _ _ _ hy1
        have Huz := Lib.hid huz
        clear hy0 hy1 huz d0 d1 d2 d3 f1 Hy0 Huy
        go_wp2_with fail
        go_loopw [74] (fun i wr => ∃ k : Nat, k ≤ vb.length ∧ i = .int .i64 k ∧ Up wz wr) (fun i _ => vb.length - (intOf i).toNat)
        case atStart => exact ⟨0, by omega, rfl, Up.refl _⟩
        case round =>
          obtain ⟨k2, hk2, rfl, hu2⟩ := hrel
          by_cases hlt2 : k2 < vb.length
          · --[
            have huo := Huz.out.trans hu2
            obtain ⟨b1, o1, cs, rfl, _, _, hcs, hd⟩ := (Hx1.out.up stable_u64 huo).at hlt2
            obtain ⟨rfl, _⟩ := hd
            obtain ⟨b2, o2, cs, rfl, _, _, hcs', hd⟩ := (Hy1.out.up stable_u64 huo).at hlt2
            obtain ⟨rfl, _⟩ := hd
            have n0 := hcs 0 _ rfl
            have n1 := hcs' 0 _ rfl
            simp only [Nat.add_zero, Nat.mul_one] at n0 n1
            have y1 := hu2.cell_some y1
            have z1 := hu2.cell_some z1
            have k20 : (0 : Int) ≤ (k2 : Int) := by omega
            have k21 : (k2 : Int) < (vb.length : Int) := by omega
            clear hcs hcs' huo
            generalize vb[k2] = n at *
            go_wp2_with fail
            go_quiet (fail)
            go_wp2_with fail
            go_roundw
            case rel => exact ⟨k2 + 1, by omega, by go_num, hu2.drewN _⟩
            case measure => simp [intOf]; omega
            --]
          · have y2 := hu2.cell_some y2
            have z2 := hu2.cell_some z2
            have y3 := hu2.cell_some y3
            have z3 := hu2.cell_some z3
            obtain ⟨wa, rfl⟩ : ∃ wa : World, wa = wr := ⟨_, rfl⟩
            have Hua := Lib.hid (Huz.out.trans hu2)
            clear hu2 y0 z0 y1 z1 Huz
            go_wp2_with fail
            go_loopw [92] (fun i wr => ∃ k : Nat, k ≤ vy.length ∧ i = .int .i64 k ∧ Up wa wr) (fun i _ => vy.length - (intOf i).toNat)
            case atStart => exact ⟨0, by omega, rfl, Up.refl _⟩
            case round =>
              obtain ⟨k3, hk3, rfl, hu3⟩ := hrel
              by_cases hlt3 : k3 < vy.length
              · --[
                have huo := Hua.out.trans hu3
                obtain ⟨b1, o1, cs, rfl, _, _, hcs, hd⟩ := (Hx2.out.up stable_bytes huo).at hlt3
                obtain ⟨vy1, hd, hr1, _⟩ := hd
                subst hd
                obtain ⟨m1, mc1, rfl, _, _⟩ := hr1.val
                obtain ⟨b2, o2, cs, rfl, _, _, hcs', hd⟩ := (Hy2.out.up stable_bytes huo).at hlt3
                obtain ⟨vy2, hd, hr2, _⟩ := hd
                subst hd
                obtain ⟨m2, mc2, rfl, _, _⟩ := hr2.val
                have n0 := hcs 0 _ rfl
                have n1 := hcs' 0 _ rfl
                simp only [Nat.add_zero, Nat.mul_one] at n0 n1
                have y2 := hu3.cell_some y2
                have z2 := hu3.cell_some z2
                have k30 : (0 : Int) ≤ (k3 : Int) := by omega
                have k31 : (k3 : Int) < (vy.length : Int) := by omega
                clear hcs hcs' huo
                generalize vy[k3] = l at *
                have hcr := fun n => run_conv (P := Tryd.prog) (w := wr.drewN n) (hr1.up stable_u8 (Up.drewN (Up.refl wr) n)) 73 5 9 Tryd.underlying73 Tryd.underlying5 Tryd.underlying9
                have hcs := fun n => run_conv (P := Tryd.prog) (w := wr.drewN n) (hr2.up stable_u8 (Up.drewN (Up.refl wr) n)) 73 5 9 Tryd.underlying73 Tryd.underlying5 Tryd.underlying9
                clear hr1 hr2
                go_wp2_with fail
                go_quiet (fail)
                go_wp2_with fail
                go_roundw
                case rel => exact ⟨k3 + 1, by omega, by go_num, hu3.drewN _⟩
                case measure => simp [intOf]; omega
                --]
              · have y3 := hu3.cell_some y3
                have z3 := hu3.cell_some z3
                obtain ⟨wb, rfl⟩ : ∃ wb : World, wb = wr := ⟨_, rfl⟩
                have Hub := Lib.hid (Hua.out.trans hu3)
                clear hu3 y2 z2 Hua
                go_wp2_with fail
                go_loopw [112] (fun i wr => ∃ k : Nat, k ≤ vs2.length ∧ i = .int .i64 k ∧ Up wb wr) (fun i _ => vs2.length - (intOf i).toNat)
                case atStart => exact ⟨0, by omega, rfl, Up.refl _⟩
                case round =>
                  obtain ⟨k4, hk4, rfl, hu4⟩ := hrel
                  by_cases hlt4 : k4 < vs2.length
                  · --[
                    have huo := Hub.out.trans hu4
                    obtain ⟨b1, o1, cs, rfl, _, _, hcs, hd⟩ := (Hx3.out.up (stable_bod d) huo).at hlt4
                    obtain ⟨m1, r1, s1, m2, r2, s2, rfl⟩ := bod_two hd
                    obtain ⟨b2, o2, cs, rfl, _, _, hcs', hd'⟩ := (Hy3.out.up (stable_bod d) huo).at hlt4
                    obtain ⟨m1', r1', s1', m2', r2', s2', rfl⟩ := bod_two hd'
                    have n0 := hcs 0 _ rfl
                    have n1 := hcs 1 _ rfl
                    have n2 := hcs' 0 _ rfl
                    have n3 := hcs' 1 _ rfl
                    simp only [Nat.add_zero] at n0 n2
                    have y3 := hu4.cell_some y3
                    have z3 := hu4.cell_some z3
                    have k40 : (0 : Int) ≤ (k4 : Int) := by omega
                    have k41 : (k4 : Int) < (vs2.length : Int) := by omega
                    have Hs := Lib.hid (fun wx (u : Up wr wx) => Ih.out _ _ _ _ _ wx (stable_bod d _ _ _ _ _ _ (Keep.upS u) hd) (stable_bod d _ _ _ _ _ _ (Keep.upS u) hd'))
                    have Hu4 := Lib.hid hu4
                    clear hcs hcs' huo hd hd' hu4
                    obtain ⟨wq, rfl⟩ : ∃ wq : World, wq = wr := ⟨_, rfl⟩
                    go_wp2_with fail
                    have dy : wq.drew.cell? ⟨wo.heap.size, 3, none⟩ = some (.slice (some ⟨b1, o1, none⟩) vs2.length g3) := y3
                    have dz : wq.drew.cell? ⟨wy.heap.size, 3, none⟩ = some (.slice (some ⟨b2, o2, none⟩) vs2.length h3) := z3
                    have e0 : wq.drew.cell? ⟨b1, o1 + k4 * 2, none⟩ = some (.slice m1 r1 s1) := n0
                    have e1' : wq.drew.cell? ⟨b1, o1 + k4 * 2 + 1, none⟩ = some (.slice m2 r2 s2) := n1
                    have e2 : wq.drew.cell? ⟨b2, o2 + k4 * 2, none⟩ = some (.slice m1' r1' s1') := n2
                    have e3 : wq.drew.cell? ⟨b2, o2 + k4 * 2 + 1, none⟩ = some (.slice m2' r2' s2') := n3
                    go_region_held3 (fun w' => w'.cell? ⟨wo.heap.size, 3, none⟩ = some (.slice (some ⟨b1, o1, none⟩) vs2.length g3) ∧ w'.cell? ⟨wy.heap.size, 3, none⟩ = some (.slice (some ⟨b2, o2, none⟩) vs2.length h3) ∧ w'.cell? ⟨b1, o1 + k4 * 2, none⟩ = some (.slice m1 r1 s1) ∧ w'.cell? ⟨b1, o1 + k4 * 2 + 1, none⟩ = some (.slice m2 r2 s2) ∧ w'.cell? ⟨b2, o2 + k4 * 2, none⟩ = some (.slice m1' r1' s1') ∧ w'.cell? ⟨b2, o2 + k4 * 2 + 1, none⟩ = some (.slice m2' r2' s2'))
                      (first | with_reducible exact ⟨dy, dz, e0, e1', e2, e3⟩ | with_reducible exact ⟨hu5.cell_some dy, hu5.cell_some dz, hu5.cell_some e0, hu5.cell_some e1', hu5.cell_some e2, hu5.cell_some e3⟩)
                      (first | (go_at_call 10; refine (Hs.out _ ((Up.refl wq).drew)).mono ?_; rintro e w5 ⟨rfl, hu5⟩))
                    all_goals
                      go_wp2_with fail
                      go_roundw
                      case rel => exact ⟨k4 + 1, by omega, by go_num, Hu4.out.trans (((Up.refl wq).drew).trans hu5)⟩
                      case measure => simp [intOf]; omega
                    --]
                  · go_wp2_with fail
                    go_roundw
                    case rel => exact ⟨k + 1, by omega, by go_num, Hu.out.trans (Hub.out.trans hu4)⟩
                    case measure => simp [intOf]; omega
      · go_wp2_with fail
        go_ret
        exact ⟨rfl, Hu2.out.trans hu⟩
theorem same_b (d : Nat) : ∀ (x : Bod) (vv vu vv' vu' : Value) (w : World), DBodF d All w x [vv, vu] → DBodF d All w x [vv', vu'] → Calls Tryd.prog 10 #[.agg #[vv, vu], .agg #[vv', vu']] w fun e w' => e = .returned (.bool true) ∧ Up w w' := by
  induction d with
  | zero => intro x vv vu vv' vu' w ha hb; exact ha.elim
  | succ d ih => exact same_step d ih
end Go.Proofs.YtplgegffapikoaaDoor
