/-
  body.Own: a body's copy, in blocks of its own.
-/
import Derived.Test.YtbceapeoknngnaaGreatDoorCp06
set_option linter.unusedVariables false
namespace Go.Proofs.YtbceapeoknngnaaGreatDoor
open Go.RowKit
theorem eVal : Elem Tryz.prog 26 53 4 80 (.agg #[.int .i64 0, .slice none 0 0, .slice none 0 0, .slice none 0 0]) := ⟨Tryz.underlying26, info_parts (by kernel_rfl), rfl, by decide⟩
theorem eByt : Elem Tryz.prog 49 32 1 24 (.slice none 0 0) := ⟨Tryz.underlying49, info_parts (by kernel_rfl), rfl, by decide⟩
theorem eBod : Elem Tryz.prog 51 29 2 48 (.agg #[.slice none 0 0, .slice none 0 0]) := ⟨Tryz.underlying51, info_parts (by kernel_rfl), rfl, by decide⟩
theorem eRec' : Elem Tryz.prog 27 71 4 48 (.agg #[.int .i64 0, .int .i64 0, .int .u64 0, .slice none 0 0]) := ⟨Tryz.underlying27, info_parts (by kernel_rfl), rfl, by decide⟩
abbrev From (n : Nat) : Nat → Prop := fun b => n ≤ b
theorem DVal.weak {d : Nat} {S S' : Nat → Prop} {w : World} {x : Val} {cs : List Value} (h : DValD d S w x cs) (hs : ∀ k, S k → S' k) : DValD d S' w x cs := stable_val d _ _ _ _ _ _ (Keep.weak hs) h
theorem DBod.weak {d : Nat} {S S' : Nat → Prop} {w : World} {x : Bod} {cs : List Value} (h : DBodF d S w x cs) (hs : ∀ k, S k → S' k) : DBodF d S' w x cs := stable_bod d _ _ _ _ _ _ (Keep.weak hs) h
set_option maxRecDepth 100000 in
set_option maxHeartbeats 6400000 in
theorem own_step (d : Nat) (ih : ∀ (x : Bod) (vv vu : Value) (w : World), DBodF d All w x [vv, vu] → Calls Tryz.prog 61 #[.agg #[vv, vu]] w fun e w' => ∃ vv' vu', e = .returned (.agg #[vv', vu']) ∧ DBodF d (From w.heap.size) w' x [vv', vu'] ∧ Up w w')
    (x : Bod) (vv vu : Value) (w : World) (ha : DBodF (d + 1) All w x [vv, vu]) :
    Calls Tryz.prog 61 #[.agg #[vv, vu]] w fun e w' => ∃ vv' vu', e = .returned (.agg #[vv', vu']) ∧ DBodF (d + 1) (From w.heap.size) w' x [vv', vu'] ∧ Up w w' := by
  have Ih := Lib.hid ih
  clear ih
  obtain ⟨a1, c1, a2, c2, rfl, rfl, hv, hu, hz⟩ := bod_cells ha
  have Hv := Lib.hid hv; have Hr := Lib.hid hu
  have zv := hz.1; have zu := hz.2
  have Hx := Lib.hid (fun (w' : World) (v1 v2 : Value) (h1 : RdS (DValD d) 4 (From (w.heap.size + 3)) w' v1 x.values) (h2 : RdS DRecZ 4 (From (w.heap.size + 3)) w' v2 x.unknown) => (show DBodF (d + 1) (From (w.heap.size + 3)) w' x [v1, v2] from ⟨v1, v2, rfl, h1, h2, hz⟩))
  clear ha hv hu hz
  generalize x.unknown = un at *
  generalize x.values = vs at *
  go_enter Tryz.func61, Tryz.ntmps61
  go_wp2_with fail
  have h0 : (((w.alloc (.cells #[.slice a1 vs.length c1, .slice a2 un.length c2] 29)).alloc (.cells #[.slice none 0 0, .slice none 0 0] 29)).alloc (.cells #[.slice none 0 0, .slice none 0 0] 29)).heap[w.heap.size]? = some (.cells #[.slice a1 vs.length c1, .slice a2 un.length c2] 29 (0, 0)) := blk_old _ (blk_old _ (blk_new w _ rfl))
  have h1 : (((w.alloc (.cells #[.slice a1 vs.length c1, .slice a2 un.length c2] 29)).alloc (.cells #[.slice none 0 0, .slice none 0 0] 29)).alloc (.cells #[.slice none 0 0, .slice none 0 0] 29)).heap[w.heap.size + 1]? = some (.cells #[.slice none 0 0, .slice none 0 0] 29 (0, 0)) := blk_old _ (blk_new (w.alloc _) _ (by simp))
  have h2 : (((w.alloc (.cells #[.slice a1 vs.length c1, .slice a2 un.length c2] 29)).alloc (.cells #[.slice none 0 0, .slice none 0 0] 29)).alloc (.cells #[.slice none 0 0, .slice none 0 0] 29)).heap[w.heap.size + 2]? = some (.cells #[.slice none 0 0, .slice none 0 0] 29 (0, 0)) := blk_new ((w.alloc _).alloc _) _ (by simp)
  have hu0 : Up w (((w.alloc (.cells #[.slice a1 vs.length c1, .slice a2 un.length c2] 29)).alloc (.cells #[.slice none 0 0, .slice none 0 0] 29)).alloc (.cells #[.slice none 0 0, .slice none 0 0] 29)) := (((Up.refl w).alloc _).alloc _).alloc _
  generalize hw1 : ((w.alloc (.cells #[.slice a1 vs.length c1, .slice a2 un.length c2] 29)).alloc (.cells #[.slice none 0 0, .slice none 0 0] 29)).alloc (.cells #[.slice none 0 0, .slice none 0 0] 29) = w1 at *
  clear hw1
  go_loopw [17] (fun i wr => ∃ (k : Nat) (v : Value), k ≤ vs.length ∧ i = .int .i64 k ∧ OwnS (DValD d) (w.heap.size + 3) 53 4 (From (w.heap.size + 3)) wr v (vs.take k) ∧ Up w wr ∧ wr.heap[w.heap.size]? = some (.cells #[.slice a1 vs.length c1, .slice a2 un.length c2] 29 (0, 0)) ∧ wr.heap[w.heap.size + 1]? = some (.cells #[.slice none 0 0, .slice none 0 0] 29 (0, 0)) ∧ wr.heap[w.heap.size + 2]? = some (.cells #[v, .slice none 0 0] 29 (0, 0)))
    (fun i _ => vs.length - (intOf i).toNat)
  case atStart => exact ⟨0, _, by omega, rfl, OwnS.nil _ _ _ _ _ _, hu0, h0, h1, h2⟩
  case round =>
    clear h0 h1 h2 hu0
    obtain ⟨k, vo, hk, rfl, how, hu, hb0, hb1, hb2⟩ := hrel
    have How := Lib.hid how; have Hb0 := Lib.hid hb0; have Hb1 := Lib.hid hb1; have Hb2 := Lib.hid hb2; have Hu := Lib.hid hu
    have hz2 : w.heap.size + 2 < wr.heap.size := lt_of_block hb2
    clear how hb0 hb1 hb2
    by_cases hlt : k < vs.length
    · obtain ⟨b, o, cs, rfl, _, _, hcs, hd⟩ := (Hv.out.up (stable_val d) hu).at hlt
      obtain ⟨p1, g1, p2, g2, p3, g3, rfl, hn, hx1, hx2, hx3, zx⟩ := val_cells hd
      have Zx := Lib.hid zx
      obtain ⟨zb, zy, zs⟩ := zx
      have c0 := hcs 0 _ rfl; have cc1 := hcs 1 _ rfl; have cc2 := hcs 2 _ rfl; have cc3 := hcs 3 _ rfl
      simp only [Nat.add_zero] at c0
      have k0 : (0 : Int) ≤ (k : Int) := by omega
      have k1 : (k : Int) < (vs.length : Int) := by omega
      have hsn : vs.take (k + 1) = vs.take k ++ [vs[k]] := by rw [List.take_succ_eq_append_getElem hlt]
      have hll : ((vs.take k).length + 1) ≤ vs.length := by rw [List.length_take]; omega
      have Hsn := Lib.hid hsn; have Hn := Lib.hid hn
      have Hx1 := Lib.hid hx1; have Hx2 := Lib.hid hx2; have Hx3 := Lib.hid hx3
      clear hcs hd hsn hn hx1 hx2 hx3 hu
      generalize vs.take k = L at *
      generalize vs[k] = q at *
      obtain ⟨qn, qb, qy, qs⟩ := q
      simp only at c0 cc1 cc2 cc3 zb zy zs Hx1 Hx2 Hx3 Hn
      obtain ⟨wo, rfl⟩ : ∃ wo : World, wo = wr := ⟨_, rfl⟩
      have hlt4 := fun j (hj : vo.ownBlock = some j) => (How.out.own.choose_spec).lt j hj
      have Hlt4 := Lib.hid hlt4; clear hlt4
      go_upto_region 5 with (fail)
      have hb9 : (wo.alloc (.cells #[.int .i64 qn, .slice p1 qb.length g1, .slice p2 qy.length g2, .slice p3 qs.length g3] 53)).heap[wo.heap.size]? = some (.cells #[.int .i64 qn, .slice p1 qb.length g1, .slice p2 qy.length g2, .slice p3 qs.length g3] 53 (0, 0)) := blk_new wo _ rfl
      have hua : Up wo (wo.alloc (.cells #[.int .i64 qn, .slice p1 qb.length g1, .slice p2 qy.length g2, .slice p3 qs.length g3] 53)) := (Up.refl wo).alloc _
      have Hb9 := Lib.hid hb9; have Hua := Lib.hid hua; clear hb9 hua
      generalize hww : wo.alloc (.cells #[.int .i64 qn, .slice p1 qb.length g1, .slice p2 qy.length g2, .slice p3 qs.length g3] 53) = ww at *
      have f1 : ww.cell? ⟨wo.heap.size, 1, none⟩ = some (.slice p1 qb.length g1) := cell_of_row ww _ 1 _ _ _ Hb9.out
      have zw : wo.heap.size < ww.heap.size := lt_of_block Hb9.out
      clear hww c0 cc1 cc2 cc3
      go_wp2_with fail
      refine (clone_u64c _ qb ww (Hx1.out.up stable_u64 Hua.out) zb).mono ?_
      rintro e w8 ⟨v8, rfl, how8, hu8⟩
      obtain ⟨a8, c8, rfl⟩ := own_val how8.own.choose_spec
      have hx8 := hu8.blk Hb9.out
      have hu28 := Hua.out.trans hu8
      have e8 : w8.cell? ⟨wo.heap.size, 1, none⟩ = some (.slice p1 qb.length g1) := cell_of_row w8 _ 1 _ _ _ hx8
      have ef : ∀ o, w8.frozen? ⟨wo.heap.size, o, none⟩ = false := fun o => frozen_of_row w8 _ o _ _ hx8
      have z8 : wo.heap.size < w8.heap.size := lt_of_block hx8
      have How8 := Lib.hid ((how8.pure (S' := No) (fun _ _ _ _ _ _ h => h) (Nat.le_of_lt zw)).rd stable_u64 (S' := From (wo.heap.size + 1)) (fun _ h => h.elim) (fun j hj => Nat.le_trans zw (how8.lo j hj).1))
      have Hx8 := Lib.hid hx8; have Hu28 := Lib.hid hu28
      clear how8 hx8 hu28 hu8 f1
      go_upto_region 6 with (fail)
      have Hx9 := Lib.hid (heap_setCell_same w8 _ 1 _ _ (.slice a8 qb.length c8) Hx8.out)
      have Hu9 := Lib.hid (Up.setCell Hu28.out (p := ⟨wo.heap.size, 1, none⟩) (Nat.le_refl _) (.slice a8 qb.length c8))
      have How9 := Lib.hid (How8.out.keep stable_u64 (Keep.setCell (p := ⟨wo.heap.size, 1, none⟩) (show ¬ wo.heap.size + 1 ≤ wo.heap.size by omega) (.slice a8 qb.length c8)))
      generalize hw9 : w8.setCell ⟨wo.heap.size, 1, none⟩ (.slice a8 qb.length c8) = w9 at *
      clear hw9 e8 ef z8 Hx8 Hu28 How8
      have e2 : w9.cell? ⟨wo.heap.size, 2, none⟩ = some (.slice p2 qy.length g2) := cell_of_row w9 _ 2 _ _ _ Hx9.out
      have z9 : wo.heap.size < w9.heap.size := lt_of_block Hx9.out
      go_wp2_with fail
      clear e2
      go_loopw [28, 6] (fun i s wr => ∃ (k : Nat) (v : Value), k ≤ qy.length ∧ i = .int .i64 k ∧ v = s ∧ OwnS DBytes w9.heap.size 32 1 (From w9.heap.size) wr v (qy.take k) ∧ Up w9 wr)
        (fun i _ _ => qy.length - (intOf i).toNat)
      case atStart => exact ⟨0, _, by omega, rfl, rfl, OwnS.nil _ _ _ _ _ _, Up.refl _⟩
      case round =>
        obtain ⟨k2, s2, hk2, rfl, rfl, how2, hu2⟩ := hrel
        have How2 := Lib.hid how2
        clear how2
        by_cases hlt2 : k2 < qy.length
        · skip
          --[
          obtain ⟨bb, oo, cs, rfl, _, _, hcs, hd⟩ := (Hx2.out.up stable_bytes (Hu9.out.trans hu2)).at hlt2
          obtain ⟨vl, hd, hr, hz⟩ := hd
          subst hd
          obtain ⟨m1, mc1, rfl, _, _⟩ := hr.val
          have n0 := hcs 0 _ rfl
          simp only [Nat.add_zero, Nat.mul_one] at n0
          have k20 : (0 : Int) ≤ (k2 : Int) := by omega
          have k21 : (k2 : Int) < (qy.length : Int) := by omega
          have Hsn2 := Lib.hid (show qy.take (k2 + 1) = qy.take k2 ++ [qy[k2]] by rw [List.take_succ_eq_append_getElem hlt2])
          have hll2 : ((qy.take k2).length + 1) ≤ qy.length := by rw [List.length_take]; omega
          have Hr := Lib.hid hr; have Hz := Lib.hid hz; have Hu2 := Lib.hid hu2
          clear hcs hr hz
          generalize qy.take k2 = L2 at *
          generalize qy[k2] = y at *
          go_wp2_with fail
          refine (clone_u8c _ y wr Hr.out (by have := Hz.out; omega)).mono ?_
          rintro e w7 ⟨v7, rfl, how7, hu7⟩
          obtain ⟨a7, c7, rfl⟩ := own_val how7.own.choose_spec
          have Hy7 := Lib.hid ((how7.pure (S' := No) (fun _ _ _ _ _ _ h => h) (Nat.le_refl _)).rd stable_u8 (S' := From wr.heap.size) (fun _ h => h.elim) (fun j hj => (how7.lo j hj).1))
          obtain ⟨xs7, hxs⟩ := (How2.out.up stable_bytes hu7).own
          have Hxo := Lib.hid hxs
          have Hu7 := Lib.hid hu7
          have z97 : w9.heap.size ≤ w7.heap.size := Nat.le_trans hu2.size hu7.size
          have Hlt5 := Lib.hid (fun j (hj : s2.ownBlock = some j) => (How2.out.own.choose_spec).lt j hj)
          clear how7 hxs hu7 hu2
          go_wp2_with (first
            | (at_builtin; go_must (refine wpList_app1 eByt _ (by rfl) _ _ (by rfl) w9.heap.size _ _ _ (by rfl) Hxo.out _ (by rfl) (by first | rfl | simp) (by rfl) (oc (by rfl)) (by omega) (by unfold maxLen; omega) (by first | omega | (simp; omega)) ?_; intro v3 w3 how3 hev3; have How3 := Lib.hid how3; have Hev3 := Lib.hid hev3; clear how3 hev3)))
          go_roundw
          case rel =>
            refine ⟨k2 + 1, v3, by omega, by go_num, rfl, ?_, Up.evo (Hu2.out.trans Hu7.out) Hev3.out (fun j hj => (Hlt5.out j hj).1)⟩
            rw [Hsn2.out]
            exact OwnS.snoc stable_bytes (a := y) (How2.out.up stable_bytes Hu7.out) Hxo.out How3.out Hev3.out (by rfl) ⟨_, rfl, Hy7.out.keep stable_u8 (Keep.weak fun j hj => ⟨Nat.le_trans Hu2.out.size hj, fun e => by have := (Hlt5.out j e).2; have hj : wr.heap.size ≤ j := hj; omega⟩), Hz.out⟩
          case measure => simp [intOf]; omega
          --]
        · skip
          have hfin : qy.take k2 = qy := List.take_of_length_le (by omega)
          have how2 := How2.out
          rw [hfin] at how2
          obtain ⟨a7, c7, rfl⟩ := own_val how2.own.choose_spec
          have h10 := hu2.blk Hx9.out
          have ef : ∀ o, wr.frozen? ⟨wo.heap.size, o, none⟩ = false := fun o => frozen_of_row wr _ o _ _ h10
          have e2 : wr.cell? ⟨wo.heap.size, 2, none⟩ = some (.slice p2 qy.length g2) := cell_of_row wr _ 2 _ _ _ h10
          have z10 : wo.heap.size < wr.heap.size := lt_of_block h10
          have hks : ∀ u, Keep (From (wo.heap.size + 1)) wr (From (wo.heap.size + 1)) (wr.setCell ⟨wo.heap.size, 2, none⟩ u) := fun u => Keep.setCell (p := ⟨wo.heap.size, 2, none⟩) (show ¬ wo.heap.size + 1 ≤ wo.heap.size by omega) u
          have Hby := Lib.hid ((how2.rd stable_bytes (S' := From (wo.heap.size + 1)) (fun j hj => Nat.le_trans (Nat.succ_le_of_lt z9) hj) (fun j hj => Nat.le_trans z9 (how2.lo j hj).1)).keep stable_bytes (hks (.slice a7 qy.length c7)))
          have Hbi := Lib.hid ((How9.out.up stable_u64 hu2).keep stable_u64 (hks (.slice a7 qy.length c7)))
          have Hx10 := Lib.hid (heap_setCell_same wr _ 2 _ _ (.slice a7 qy.length c7) h10)
          have Hu10 := Lib.hid (Up.setCell (Hu9.out.trans hu2) (p := ⟨wo.heap.size, 2, none⟩) (Nat.le_refl _) (.slice a7 qy.length c7))
          obtain ⟨wp, rfl⟩ : ∃ wp : World, wp = wr := ⟨_, rfl⟩
          clear hfin how2 How2 How9 Hx9 Hu9 h10 hks hu2
          go_upto_region 13 with (fail)
          generalize hw10 : wp.setCell ⟨wo.heap.size, 2, none⟩ (.slice a7 qy.length c7) = w10 at *
          clear hw10 ef z10 e2
          have e3 : w10.cell? ⟨wo.heap.size, 3, none⟩ = some (.slice p3 qs.length g3) := cell_of_row w10 _ 3 _ _ _ Hx10.out
          have z10 : wo.heap.size < w10.heap.size := lt_of_block Hx10.out
          go_wp2_with fail
          clear e3
          go_loopw [43, 9] (fun i s wr => ∃ (k : Nat) (v : Value), k ≤ qs.length ∧ i = .int .i64 k ∧ v = s ∧ OwnS (DBodF d) w10.heap.size 29 2 (From w10.heap.size) wr v (qs.take k) ∧ Up w10 wr)
            (fun i _ _ => qs.length - (intOf i).toNat)
          case atStart => exact ⟨0, _, by omega, rfl, rfl, OwnS.nil _ _ _ _ _ _, Up.refl _⟩
          case round =>
            obtain ⟨k3, s3, hk3, rfl, rfl, how3, hu3⟩ := hrel
            have How3' := Lib.hid how3
            clear how3
            by_cases hlt3 : k3 < qs.length
            · skip
              --[
              obtain ⟨bb, oo, cs, rfl, _, _, hcs, hd⟩ := (Hx3.out.up (stable_bod d) (Hu10.out.trans hu3)).at hlt3
              obtain ⟨m1, r1, t1, m2, r2, t2, rfl⟩ := bod_two hd
              have n0 := hcs 0 _ rfl
              have n1 := hcs 1 _ rfl
              simp only [Nat.add_zero] at n0
              have k30 : (0 : Int) ≤ (k3 : Int) := by omega
              have k31 : (k3 : Int) < (qs.length : Int) := by omega
              have Hsn2 := Lib.hid (show qs.take (k3 + 1) = qs.take k3 ++ [qs[k3]] by rw [List.take_succ_eq_append_getElem hlt3])
              have hll2 : ((qs.take k3).length + 1) ≤ qs.length := by rw [List.length_take]; omega
              have Hd := Lib.hid hd; have Hu3 := Lib.hid hu3
              clear hcs hd
              generalize qs.take k3 = L2 at *
              generalize qs[k3] = y at *
              obtain ⟨wq, rfl⟩ : ∃ wq : World, wq = wr := ⟨_, rfl⟩
              have zq : w10.heap.size ≤ wq.heap.size := hu3.size
              clear hu3
              go_upto_region 17 with (fail)
              have hq1 : (wq.alloc (.cells #[.slice m1 r1 t1, .slice m2 r2 t2] 29)).heap[wq.heap.size]? = some (.cells #[.slice m1 r1 t1, .slice m2 r2 t2] 29 (0, 0)) := blk_new wq _ rfl
              have Hua2 := Lib.hid ((Up.refl wq).alloc (.cells #[.slice m1 r1 t1, .slice m2 r2 t2] 29))
              generalize hwv : wq.alloc (.cells #[.slice m1 r1 t1, .slice m2 r2 t2] 29) = wv at *
              have j0 : wv.cell? ⟨wq.heap.size, 0, none⟩ = some (.slice m1 r1 t1) := cell_of_row wv _ 0 _ _ _ hq1
              have j1 : wv.cell? ⟨wq.heap.size, 1, none⟩ = some (.slice m2 r2 t2) := cell_of_row wv _ 1 _ _ _ hq1
              clear hwv n0 n1 hq1
              go_wp2_with fail
              refine (Ih.out y _ _ wv (stable_bod d _ _ _ _ _ _ (Keep.upS Hua2.out) Hd.out)).mono ?_
              rintro e w7 ⟨y1, y2, rfl, hy7, hu7'⟩
              have hu7 := Hua2.out.trans hu7'
              have Hy7 := Lib.hid hy7
              obtain ⟨l1, l2, l3, l4, l5, l6, rfl, rfl⟩ : ∃ l1 l2 l3 l4 l5 l6, y1 = .slice l1 l2 l3 ∧ y2 = .slice l4 l5 l6 := by
                obtain ⟨l1, l2, l3, l4, l5, l6, h⟩ := bod_two hy7
                simp only [List.cons.injEq, and_true] at h
                exact ⟨l1, l2, l3, l4, l5, l6, h.1, h.2⟩
              obtain ⟨xs7, hxs⟩ := (How3'.out.up (stable_bod d) hu7).own
              have Hxo := Lib.hid hxs
              have Hu7 := Lib.hid hu7
              have z97 : w10.heap.size ≤ w7.heap.size := Nat.le_trans zq hu7.size
              have Hlt5 := Lib.hid (fun j (hj : s3.ownBlock = some j) => (How3'.out.own.choose_spec).lt j hj)
              have Hwz := Lib.hid Hua2.out.size
              clear hxs hu7 hu7' hy7 j0 j1
              go_wp2_with (first
                | (at_builtin; go_must (refine wpList_app1 eBod _ (by rfl) _ _ (by rfl) w10.heap.size _ _ _ (by rfl) Hxo.out _ (by rfl) (by first | rfl | simp) (by rfl) (oc (by rfl)) (by omega) (by unfold maxLen; omega) (by first | omega | (simp; omega)) ?_; intro v3 w3 how3 hev3; have How3 := Lib.hid how3; have Hev3 := Lib.hid hev3; clear how3 hev3)))
              go_roundw
              case rel =>
                refine ⟨k3 + 1, v3, by omega, by go_num, rfl, ?_, Up.evo (Hu3.out.trans Hu7.out) Hev3.out (fun j hj => (Hlt5.out j hj).1)⟩
                rw [Hsn2.out]
                exact OwnS.snoc (stable_bod d) (a := y) (How3'.out.up (stable_bod d) Hu7.out) Hxo.out How3.out Hev3.out (by rfl) (DBod.weak Hy7.out fun j hj => ⟨Nat.le_trans zq (Nat.le_trans Hwz.out hj), fun e => by have := (Hlt5.out j e).2; have hj : wv.heap.size ≤ j := hj; have := Hwz.out; omega⟩)
              case measure => simp [intOf]; omega
              --]
            · skip
              --[
              have hfin : qs.take k3 = qs := List.take_of_length_le (by omega)
              have how3 := How3'.out
              rw [hfin] at how3
              obtain ⟨a9, c9, rfl⟩ := own_val how3.own.choose_spec
              have h11 := hu3.blk Hx10.out
              have ef : ∀ o, wr.frozen? ⟨wo.heap.size, o, none⟩ = false := fun o => frozen_of_row wr _ o _ _ h11
              have e3 : wr.cell? ⟨wo.heap.size, 3, none⟩ = some (.slice p3 qs.length g3) := cell_of_row wr _ 3 _ _ _ h11
              have z11 : wo.heap.size < wr.heap.size := lt_of_block h11
              have hks : ∀ u, Keep (From (wo.heap.size + 1)) wr (From (wo.heap.size + 1)) (wr.setCell ⟨wo.heap.size, 3, none⟩ u) := fun u => Keep.setCell (p := ⟨wo.heap.size, 3, none⟩) (show ¬ wo.heap.size + 1 ≤ wo.heap.size by omega) u
              have hbs := (how3.rd (stable_bod d) (S' := From (wo.heap.size + 1)) (fun j hj => Nat.le_trans (Nat.succ_le_of_lt z10) hj) (fun j hj => Nat.le_trans z10 (how3.lo j hj).1)).keep (stable_bod d) (hks (.slice a9 qs.length c9))
              have hby := (Hby.out.up stable_bytes hu3).keep stable_bytes (hks (.slice a9 qs.length c9))
              have hbi := (Hbi.out.up stable_u64 hu3).keep stable_u64 (hks (.slice a9 qs.length c9))
              have Hval := Lib.hid (show DValD d (From (wo.heap.size + 1)) (wr.setCell ⟨wo.heap.size, 3, none⟩ (.slice a9 qs.length c9)) (qn, qb, qy, qs) [.int .i64 qn, .slice a8 qb.length c8, .slice a7 qy.length c7, .slice a9 qs.length c9] from ⟨_, _, _, rfl, Hn.out, hbi, hby, hbs, Zx.out⟩)
              have Hx11 := Lib.hid (heap_setCell_same wr _ 3 _ _ (.slice a9 qs.length c9) h11)
              have Hu11 := Lib.hid (Up.setCell (Hu10.out.trans hu3) (p := ⟨wo.heap.size, 3, none⟩) (Nat.le_refl _) (.slice a9 qs.length c9))
              obtain ⟨wp2, rfl⟩ : ∃ wp2 : World, wp2 = wr := ⟨_, rfl⟩
              clear hfin how3 How3' Hx10 Hu10 h11 hks hbs hby hbi hu3 Hby Hbi
              go_upto_region 20 with (fail)
              generalize hw11 : wp2.setCell ⟨wo.heap.size, 3, none⟩ (.slice a9 qs.length c9) = w11 at *
              clear hw11 ef z11 e3
              have i0 : w11.cell? ⟨wo.heap.size, 0, none⟩ = some (.int .i64 qn) := cell_of_row w11 _ 0 _ _ _ Hx11.out
              have i1 : w11.cell? ⟨wo.heap.size, 1, none⟩ = some (.slice a8 qb.length c8) := cell_of_row w11 _ 1 _ _ _ Hx11.out
              have i2 : w11.cell? ⟨wo.heap.size, 2, none⟩ = some (.slice a7 qy.length c7) := cell_of_row w11 _ 2 _ _ _ Hx11.out
              have i3 : w11.cell? ⟨wo.heap.size, 3, none⟩ = some (.slice a9 qs.length c9) := cell_of_row w11 _ 3 _ _ _ Hx11.out
              have Hbi2 := Lib.hid (Hu11.out.blk Hb2.out)
              have o0 : w11.cell? ⟨w.heap.size + 2, 0, none⟩ = some vo := cell_of_row w11 _ 0 _ _ _ Hbi2.out
              have z11 : wo.heap.size < w11.heap.size := lt_of_block Hx11.out
              obtain ⟨xs1, hxs⟩ := (How.out.up (stable_val d) Hu11.out).own
              have Hxo := Lib.hid hxs; clear hxs
              go_wp2_with (first
                | (at_builtin; go_must (refine wpList_app1 eVal _ (by rfl) _ _ (by rfl) (w.heap.size + 3) _ _ _ (by rfl) Hxo.out _ (by rfl) (by first | rfl | simp) (by rfl) (oc (by rfl)) (by omega) (by unfold maxLen; omega) (by first | omega | (simp; omega)) ?_; intro v3 w3 how3 hev3; obtain ⟨a3, c3, rfl⟩ := own_val how3; have hnn := hev3.blk Hbi2.out (fun e => by have := (Hlt4.out _ e).1; omega); have m0 : w3.cell? ⟨w.heap.size + 2, 0, none⟩ = some vo := cell_of_row w3 _ 0 _ _ _ hnn; have m1 : ∀ o, w3.frozen? ⟨w.heap.size + 2, o, none⟩ = false := (fun o => frozen_of_row w3 _ o _ _ hnn); have zn3 : w.heap.size + 2 < w3.heap.size := lt_of_block hnn; have Hnn := Lib.hid hnn; have How3 := Lib.hid how3; have Hev3 := Lib.hid hev3; clear hnn how3 hev3)))
              go_roundw
              case rel =>
                have hpl : ∀ j, (Value.slice a3 (L.length + 1) c3).ownBlock = some j → w.heap.size + 3 ≤ j := fun j hj => by
                  rcases Hev3.out.place j hj with h | h
                  · exact (Hlt4.out j h).1
                  · omega
                have hne : ∀ b, b < w.heap.size + 3 → vo.ownBlock ≠ some b := fun b hb e => by have := (Hlt4.out _ e).1; omega
                refine ⟨k + 1, .slice a3 (L.length + 1) c3, by omega, by go_num, ?_, ?_, ?_, ?_, ?_⟩
                · rw [Hsn.out]
                  refine OwnS.setCell (stable_val d) (OwnS.snoc (stable_val d) (a := (qn, qb, qy, qs)) (How.out.up (stable_val d) Hu11.out) Hxo.out How3.out Hev3.out (by rfl) (DVal.weak Hval.out fun j hj => ⟨?_, ?_⟩)) (fun e => absurd (hpl _ e) (show ¬ (w.heap.size + 3 ≤ w.heap.size + 2) by omega)) (show ¬ (w.heap.size + 3 ≤ w.heap.size + 2) by omega) _
                  · have hj : wo.heap.size + 1 ≤ j := hj; show w.heap.size + 3 ≤ j; omega
                  · have hj : wo.heap.size + 1 ≤ j := hj; exact fun e => by have := (Hlt4.out j e).2; omega
                · exact Up.setCell (Up.evo (Hu.out.trans Hu11.out) Hev3.out (fun j hj => by have := (Hlt4.out j hj).1; omega)) (show w.heap.size ≤ w.heap.size + 2 by omega) _
                · exact (Below.heap_setCell w3 ⟨w.heap.size + 2, 0, none⟩ _ w.heap.size (by simp)).trans (Hev3.out.blk (Hu11.out.blk Hb0.out) (hne _ (by omega)))
                · exact (Below.heap_setCell w3 ⟨w.heap.size + 2, 0, none⟩ _ (w.heap.size + 1) (by simp)).trans (Hev3.out.blk (Hu11.out.blk Hb1.out) (hne _ (by omega)))
                · exact heap_setCell_same w3 _ 0 _ _ _ Hnn.out
              case measure => simp [intOf]; omega
              --]
    · have hfin : vs.take k = vs := List.take_of_length_le (by omega)
      have how := How.out
      rw [hfin] at how
      obtain ⟨ao, co, rfl⟩ := own_val how.own.choose_spec
      have hpl : ∀ j, (Value.slice ao vs.length co).ownBlock = some j → w.heap.size + 3 ≤ j := fun j hj => (how.lo j hj).1
      have hrm := (how.rd (stable_val d) (S' := From (w.heap.size + 3)) (fun _ h => h) (fun j hj => hpl j hj)).keep (stable_val d) (S' := fun b => w.heap.size + 3 ≤ b ∧ b < wr.heap.size) (fun k hs hk => ⟨rfl, hs, hk⟩)
      have Hrm := Lib.hid hrm
      clear how hpl hrm How hfin hu
      obtain ⟨wa, rfl⟩ : ∃ wa : World, wa = wr := ⟨_, rfl⟩
      have f1 : wa.cell? ⟨w.heap.size, 1, none⟩ = some (.slice a2 un.length c2) := cell_of_row wa _ 1 _ _ _ Hb0.out
      have hza : w.heap.size + 2 < wa.heap.size := lt_of_block Hb2.out
      go_wp2_with fail
      clear f1
      go_loopw [65] (fun i wr => ∃ (k : Nat) (v : Value), k ≤ un.length ∧ i = .int .i64 k ∧ OwnS DRecZ wa.heap.size 71 4 (From wa.heap.size) wr v (un.take k) ∧ Keep (fun b => w.heap.size + 3 ≤ b ∧ b < wa.heap.size) wa (fun b => w.heap.size + 3 ≤ b ∧ b < wa.heap.size) wr ∧ Up w wr ∧ wr.heap[w.heap.size]? = some (.cells #[.slice a1 vs.length c1, .slice a2 un.length c2] 29 (0, 0)) ∧ wr.heap[w.heap.size + 1]? = some (.cells #[.slice none 0 0, .slice none 0 0] 29 (0, 0)) ∧ wr.heap[w.heap.size + 2]? = some (.cells #[.slice ao vs.length co, v] 29 (0, 0)) ∧ wa.heap.size ≤ wr.heap.size)
        (fun i _ => un.length - (intOf i).toNat)
      case atStart => exact ⟨0, _, by omega, rfl, OwnS.nil _ _ _ _ _ _, Keep.weak (fun _ h => h), Hu.out, Hb0.out, Hb1.out, Hb2.out, Nat.le_refl _⟩
      case round =>
        clear Hb0 Hb1 Hb2 Hu
        obtain ⟨k4, vn, hk4, rfl, how, hkp, hu, hb0, hb1, hb2, hza3⟩ := hrel
        have Hb1 := Lib.hid hb1
        have How := Lib.hid how; have Hb0 := Lib.hid hb0; have Hb2 := Lib.hid hb2; have Hu := Lib.hid hu; have Hkp := Lib.hid hkp
        clear how hb0 hb1 hb2 hkp
        by_cases hlt4 : k4 < un.length
        · skip
          --[
          obtain ⟨b, o, cs, rfl, _, _, hcs, hd⟩ := (Hr.out.up stable_recz hu).at hlt4
          obtain ⟨⟨vb, hd, hrb, h64⟩, hz⟩ := hd
          obtain ⟨io, ic, rfl, _, _⟩ := hrb.val
          subst hd
          have c0 := hcs 0 _ rfl; have c1 := hcs 1 _ rfl; have c2 := hcs 2 _ rfl; have c3 := hcs 3 _ rfl
          simp only [Nat.add_zero] at c0
          have k40 : (0 : Int) ≤ (k4 : Int) := by omega
          have k41 : (k4 : Int) < (un.length : Int) := by omega
          have Hsn := Lib.hid (show un.take (k4 + 1) = un.take k4 ++ [un[k4]] by rw [List.take_succ_eq_append_getElem hlt4])
          have hll : ((un.take k4).length + 1) ≤ un.length := by rw [List.length_take]; omega
          have Hrb := Lib.hid hrb; have H64 := Lib.hid h64; have Hz := Lib.hid hz
          clear hcs hrb hu h64 hz
          generalize un.take k4 = L at *
          generalize un[k4] = x at *
          obtain ⟨wo, rfl⟩ : ∃ wo : World, wo = wr := ⟨_, rfl⟩
          have Hlt4 := Lib.hid (fun j (hj : vn.ownBlock = some j) => (How.out.own.choose_spec).lt j hj)
          go_upto_region 25 with (fail)
          have hx0 : (wo.alloc (.cells #[.int .i64 x.number, .int .i64 x.how, .int .u64 (x.bits : Int), .slice io x.bytes.length ic] 71)).heap[wo.heap.size]? = some (.cells #[.int .i64 x.number, .int .i64 x.how, .int .u64 (x.bits : Int), .slice io x.bytes.length ic] 71 (0, 0)) := blk_new wo _ rfl
          have Hua := Lib.hid ((Up.refl wo).alloc (.cells #[.int .i64 x.number, .int .i64 x.how, .int .u64 (x.bits : Int), .slice io x.bytes.length ic] 71))
          have Hx0 := Lib.hid hx0; clear hx0
          generalize hww : wo.alloc (.cells #[.int .i64 x.number, .int .i64 x.how, .int .u64 (x.bits : Int), .slice io x.bytes.length ic] 71) = ww at *
          have e3 : ww.cell? ⟨wo.heap.size, 3, none⟩ = some (.slice io x.bytes.length ic) := cell_of_row ww _ 3 _ _ _ Hx0.out
          have zw : wo.heap.size < ww.heap.size := lt_of_block Hx0.out
          clear hww c0 c1 c2 c3
          go_wp2_with fail
          refine (clone_u8c _ x.bytes ww (Hrb.out.up stable_u8 Hua.out) (by have := Hz.out; omega)).mono ?_
          rintro e w8 ⟨v8, rfl, how8, hu8⟩
          obtain ⟨a8, c8, rfl⟩ := own_val how8.own.choose_spec
          have hx8 := hu8.blk Hx0.out
          have hu28 := Hua.out.trans hu8
          have e8 : w8.cell? ⟨wo.heap.size, 3, none⟩ = some (.slice io x.bytes.length ic) := cell_of_row w8 _ 3 _ _ _ hx8
          have ef : ∀ o, w8.frozen? ⟨wo.heap.size, o, none⟩ = false := fun o => frozen_of_row w8 _ o _ _ hx8
          have z8 : wo.heap.size < w8.heap.size := lt_of_block hx8
          have hy8 := (how8.pure (S' := No) (fun _ _ _ _ _ _ h => h) (Nat.le_refl _)).rd stable_u8 (S' := From (wo.heap.size + 1)) (fun _ h => h.elim) (fun j hj => Nat.le_trans zw (how8.lo j hj).1)
          have Hy9 := Lib.hid (hy8.keep stable_u8 (Keep.setCell (p := ⟨wo.heap.size, 3, none⟩) (show ¬ wo.heap.size + 1 ≤ wo.heap.size by omega) (.slice a8 x.bytes.length c8)))
          have Hx9 := Lib.hid (heap_setCell_same w8 _ 3 _ _ (.slice a8 x.bytes.length c8) hx8)
          have Hu9 := Lib.hid (Up.setCell hu28 (p := ⟨wo.heap.size, 3, none⟩) (Nat.le_refl _) (.slice a8 x.bytes.length c8))
          clear how8 hx8 hu28 hu8 e3 hy8 Hrb Hua
          go_upto_region 26 with (fail)
          generalize hw9 : w8.setCell ⟨wo.heap.size, 3, none⟩ (.slice a8 x.bytes.length c8) = w9 at *
          clear hw9 e8 ef z8
          have i0 : w9.cell? ⟨wo.heap.size, 0, none⟩ = some (.int .i64 x.number) := cell_of_row w9 _ 0 _ _ _ Hx9.out
          have i1 : w9.cell? ⟨wo.heap.size, 1, none⟩ = some (.int .i64 x.how) := cell_of_row w9 _ 1 _ _ _ Hx9.out
          have i2 : w9.cell? ⟨wo.heap.size, 2, none⟩ = some (.int .u64 (x.bits : Int)) := cell_of_row w9 _ 2 _ _ _ Hx9.out
          have i3 : w9.cell? ⟨wo.heap.size, 3, none⟩ = some (.slice a8 x.bytes.length c8) := cell_of_row w9 _ 3 _ _ _ Hx9.out
          have Hbi := Lib.hid (Hu9.out.blk Hb2.out)
          have o1 : w9.cell? ⟨w.heap.size + 2, 1, none⟩ = some vn := cell_of_row w9 _ 1 _ _ _ Hbi.out
          have z9 : wo.heap.size < w9.heap.size := lt_of_block Hx9.out
          obtain ⟨xs, hxs⟩ := (How.out.up stable_recz Hu9.out).own
          have Hxo := Lib.hid hxs; clear hxs
          go_wp2_with (first
            | (at_builtin; go_must (refine wpList_app1 eRec' _ (by rfl) _ _ (by rfl) wa.heap.size _ _ _ (by rfl) Hxo.out _ (by rfl) (by first | rfl | simp) (by rfl) (oc (by rfl)) (by omega) (by unfold maxLen; omega) (by first | omega | (simp; omega)) ?_; intro v3 w3 how3 hev3; obtain ⟨a3, c3, rfl⟩ := own_val how3; have hnn := hev3.blk Hbi.out (fun e => by have := (Hlt4.out _ e).1; omega); have m0 : w3.cell? ⟨w.heap.size + 2, 1, none⟩ = some vn := cell_of_row w3 _ 1 _ _ _ hnn; have m1 : ∀ o, w3.frozen? ⟨w.heap.size + 2, o, none⟩ = false := (fun o => frozen_of_row w3 _ o _ _ hnn); have zn3 : w.heap.size + 2 < w3.heap.size := lt_of_block hnn; have Hnn := Lib.hid hnn; have How3 := Lib.hid how3; have Hev3 := Lib.hid hev3; clear hnn how3 hev3)))
          go_roundw
          case rel =>
            have hpl : ∀ j, (Value.slice a3 (L.length + 1) c3).ownBlock = some j → wa.heap.size ≤ j := fun j hj => by
              rcases Hev3.out.place j hj with h | h
              · exact (Hlt4.out j h).1
              · omega
            have hne : ∀ b, b < wa.heap.size → vn.ownBlock ≠ some b := fun b hb e => by have := (Hlt4.out _ e).1; omega
            refine ⟨k4 + 1, .slice a3 (L.length + 1) c3, by omega, by go_num, ?_, ?_, ?_, ?_, ?_, ?_, ?_⟩
            · rw [Hsn.out]
              refine OwnS.setCell stable_recz (OwnS.snoc stable_recz (a := x) (How.out.up stable_recz Hu9.out) Hxo.out How3.out Hev3.out (by rfl) ⟨⟨_, rfl, Hy9.out.keep stable_u8 (Keep.weak fun j hj => ⟨?_, ?_⟩), H64.out⟩, Hz.out⟩) (fun e => absurd (hpl _ e) (show ¬ (wa.heap.size ≤ w.heap.size + 2) by omega)) (show ¬ (wa.heap.size ≤ w.heap.size + 2) by omega) _
              · have hj : wo.heap.size + 1 ≤ j := hj; show wa.heap.size ≤ j; omega
              · have hj : wo.heap.size + 1 ≤ j := hj; exact fun e => by have := (Hlt4.out j e).2; omega
            · refine Keep.trans (Keep.trans (Keep.trans Hkp.out (Keep.upS Hu9.out)) (S' := fun b => w.heap.size + 3 ≤ b ∧ b < wa.heap.size) (w' := w9) (w2 := w3) (fun j hs hj => ⟨Hev3.out.grown.block j hj (fun e => hne j hs.2 e.symm), hs⟩)) (Keep.setCell (fun h => by have h : w.heap.size + 3 ≤ w.heap.size + 2 ∧ w.heap.size + 2 < wa.heap.size := h; omega) _)
            · exact Up.setCell (Up.evo (Hu.out.trans Hu9.out) Hev3.out (fun j hj => by have := (Hlt4.out j hj).1; omega)) (show w.heap.size ≤ w.heap.size + 2 by omega) _
            · exact (Below.heap_setCell w3 ⟨w.heap.size + 2, 1, none⟩ _ w.heap.size (by simp)).trans (Hev3.out.blk (Hu9.out.blk Hb0.out) (hne _ (by omega)))
            · exact (Below.heap_setCell w3 ⟨w.heap.size + 2, 1, none⟩ _ (w.heap.size + 1) (by simp)).trans (Hev3.out.blk (Hu9.out.blk Hb1.out) (hne _ (by omega)))
            · exact heap_setCell_same w3 _ 1 _ _ _ Hnn.out
            · have h3 := Hev3.out.grown.size
              have h4 := Hu9.out.size
              exact Nat.le_trans (by omega) (Below.setCell (Below.refl 0 w3) (p := ⟨w.heap.size + 2, 1, none⟩) (Nat.zero_le _) (.slice a3 (L.length + 1) c3)).size
          case measure => simp [intOf]; omega
          --]
        · skip
          --[
          have hfin : un.take k4 = un := List.take_of_length_le (by omega)
          have how := How.out
          rw [hfin] at how
          obtain ⟨ar, cr, rfl⟩ := own_val how.own.choose_spec
          have hvr := how.rd stable_recz (S' := From (w.heap.size + 3)) (fun j hj => by have hj : wa.heap.size ≤ j := hj; show w.heap.size + 3 ≤ j; omega) (fun j hj => by have := (how.lo j hj).1; show w.heap.size + 3 ≤ j; omega)
          have hvv := (Hrm.out.keep (stable_val d) Hkp.out).keep (stable_val d) (S' := From (w.heap.size + 3)) (w' := wr) (Keep.weak fun j hj => hj.1)
          have hfin2 := Hx.out wr _ _ hvv hvr
          have Hf := Lib.hid hfin2
          have Hu := Lib.hid hu
          have r0 : wr.cell? ⟨w.heap.size + 2, 0, none⟩ = some (.slice ao vs.length co) := cell_of_row wr _ 0 _ _ _ Hb2.out
          have r1 : wr.cell? ⟨w.heap.size + 2, 1, none⟩ = some (.slice ar un.length cr) := cell_of_row wr _ 1 _ _ _ Hb2.out
          have s0 : ∀ o, wr.frozen? ⟨w.heap.size + 1, o, none⟩ = false := fun o => frozen_of_row wr _ o _ _ Hb1.out
          have s1 : wr.cell? ⟨w.heap.size + 1, 0, none⟩ = some (.slice none 0 0) := cell_of_row wr _ 0 _ _ _ Hb1.out
          have s2 : wr.cell? ⟨w.heap.size + 1, 1, none⟩ = some (.slice none 0 0) := cell_of_row wr _ 1 _ _ _ Hb1.out
          have s3 : w.heap.size + 1 < wr.heap.size := lt_of_block Hb1.out
          clear hfin how hvr hvv hfin2 How Hrm Hkp hu
          go_wp2_with fail
          refine bodyPost_ret (v := .agg #[.slice ao vs.length co, .slice ar un.length cr]) (by simp [results, Tryz.results61, go_sem, s1, s2]) rfl ?_
          refine ⟨_, _, rfl, ?_, ?_⟩
          · refine DBod.weak (S := From (w.heap.size + 3)) ?_ (fun j hj => by have hj : w.heap.size + 3 ≤ j := hj; show w.heap.size ≤ j; omega)
            refine stable_bod _ _ _ _ _ _ _ (Keep.trans (Keep.setCell (p := ⟨w.heap.size + 1, 0, none⟩) (show ¬ w.heap.size + 3 ≤ w.heap.size + 1 by omega) _) (Keep.setCell (p := ⟨w.heap.size + 1, 1, none⟩) (show ¬ w.heap.size + 3 ≤ w.heap.size + 1 by omega) _)) Hf.out
          · exact Up.setCell (Up.setCell Hu.out (show w.heap.size ≤ w.heap.size + 1 by omega) _) (show w.heap.size ≤ w.heap.size + 1 by omega) _
          --]
theorem own_b (d : Nat) : ∀ (x : Bod) (vv vu : Value) (w : World), DBodF d All w x [vv, vu] → Calls Tryz.prog 61 #[.agg #[vv, vu]] w fun e w' => ∃ vv' vu', e = .returned (.agg #[vv', vu']) ∧ DBodF d (From w.heap.size) w' x [vv', vu'] ∧ Up w w' := by
  induction d with
  | zero => intro x vv vu w ha; exact ha.elim
  | succ d ih => exact own_step d ih
end Go.Proofs.YtbceapeoknngnaaGreatDoor
