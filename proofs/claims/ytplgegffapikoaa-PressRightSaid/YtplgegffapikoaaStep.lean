/-
  press.step.
-/
import Derived.Test.YtplgegffapikoaaHowField
import Derived.Test.YtplgegffapikoaaFind
import Derived.Test.YtplgegffapikoaaDrew
import Derived.RegionTactic
import Derived.Deep.DeepCutAuto
import Derived.Deep.RegionWith
import Derived.Deep.RegionHeld3
set_option linter.unusedVariables false
namespace Go.Proofs.Ytplgegffapikoaa
open Go.RowKit
set_option maxRecDepth 100000 in
set_option maxHeartbeats 1600000 in
theorem step_any (F b o : Nat) (f : Fil) (m : Msg) (vm ve vf vb : Value) (n : Int) (w : World) (hf0 : w.cell? ⟨F, 0, none⟩ = some vm) (hf1 : w.cell? ⟨F, 1, none⟩ = some ve) (hF : FilV All w (.agg #[vm, ve]) f)
    (hm0 : w.cell? ⟨b, o, none⟩ = some (.string ⟨m.name.toArray⟩)) (hm1 : w.cell? ⟨b, o + 1, none⟩ = some vf) (hm2 : w.cell? ⟨b, o + 2, none⟩ = some vb) (hvf : RdS DFld 6 All w vf m.fields) (hvb : RdS DInt 1 All w vb m.barred) (hn : 0 ≤ idxP (fun x => x.number == n) m.fields) :
    Calls Try.prog 55 #[.pointer (some ⟨F, 0, none⟩), .pointer (some ⟨b, o, none⟩), .int .i64 n] w fun e w' => e = .returned (.agg #[.int .i64 (stepX f (fldN m n)).kind, .int .i64 (stepX f (fldN m n)).number, .int .i64 (stepX f (fldN m n)).how, .int .i64 (stepX f (fldN m n)).field, .int .i64 (stepX f (fldN m n)).next]) ∧ Up w w' := by
  obtain ⟨k, hk, e1, e2, e3⟩ := idxP_find _ _ hn
  have e4 : fldN m n = m.fields[k] := by unfold fldN; rw [e2]; rfl
  rw [e4]
  have HF := Lib.hid hF
  obtain ⟨vm', ve', he, hm, heE⟩ := hF
  simp only [Value.agg.injEq] at he
  obtain ⟨mo, mc, hq1, _, _⟩ := hm.val
  obtain ⟨eo, ec, hq2, _, _⟩ := heE.val
  obtain ⟨rfl, rfl⟩ : vm = vm' ∧ ve = ve' := by simpa using he
  clear he hm heE
  subst hq1 hq2
  obtain ⟨fo, fc, rfl, hc1, hc2⟩ := hvf.val
  obtain ⟨bo, bc, rfl, _, _⟩ := hvb.val
  obtain ⟨b2, o2, cs, rfl, hb2, hl, hcs, hd⟩ := hvf.at hk
  obtain ⟨hd, hx⟩ := hd
  subst hd
  have c2 := hcs 2 _ rfl
  have c3 := hcs 3 _ rfl
  have c4 := hcs 4 _ rfl
  have hn3 : m.fields[k].number = n := by simpa using e3
  clear hcs hl hx e2 e3 e4 hn
  have k0 : (0 : Int) ≤ (k : Int) := by omega
  have k1 : (k : Int) < (m.fields.length : Int) := by omega
  have hfl := fun wx (u : Up w wx) => field_any (.string ⟨m.name.toArray⟩) _ (.slice bo m.barred.length bc) m.fields n wx ⟨_, rfl⟩ ⟨_, _, _, rfl⟩ (hvf.up stable_fld u)
  rw [e1] at hfl
  have Hfl := Lib.hid hfl
  have Hvf := Lib.hid hvf; have Hvb := Lib.hid hvb; clear hvf hvb hfl e1
  generalize m.fields[k] = x at *
  obtain ⟨xn, xnum, xk, xt, xm, xc⟩ := x
  simp only at c2 c3 c4 hn3
  subst hn3
  have hbz : b < w.heap.size := World.block_lt_of_cell? w _ hm0
  have hFz : F < w.heap.size := World.block_lt_of_cell? w _ hf0
  go_enter Try.func55, Try.ntmps55
  go_wp2_with fail
  refine (Hfl.out _ ((Up.refl w).alloc _)).mono ?_
  rintro e w1 ⟨rfl, hu1⟩
  have hu0 := ((Up.refl w).alloc (.cells #[.int .i64 0, .int .i64 0, .int .i64 0, .int .i64 0, .int .i64 0] 72)).trans hu1
  have r0 := hu1.blk (blk_new w (.cells #[.int .i64 0, .int .i64 0, .int .i64 0, .int .i64 0, .int .i64 0] 72) rfl)
  have c2 := hu0.cell_some c2
  have c3 := hu0.cell_some c3
  have c4 := hu0.cell_some c4
  have hf0 := hu0.cell_some hf0
  have hf1 := hu0.cell_some hf1
  have hm1 := hu0.cell_some hm1
  have Hu0 := Lib.hid hu0; have Hr0 := Lib.hid r0
  clear r0 hu1 hu0 hm0 hm2
  go_upto_region 3 with (fail)
  go_cut [9] (fun v wc => v = .pointer (some ⟨w1.heap.size, 0, none⟩) ∧ wc.heap[w1.heap.size]? = some (.cells #[.int .i64 1, .int .i64 xnum, .int .i64 (howN xk), .int .i64 xk, .int .i64 (-1)] 72 (0, 0)) ∧ Up w1 wc)
  case first =>
    have hnw := World.new_ne w1 _ c2
    go_region_held3 (fun w' => w'.cell? ⟨b2, o2 + k * 6 + 2, none⟩ = some (.int .i64 xk)) (go_keep)
      (first
        | (go_at_call 35; refine (how_any _ _).mono ?_; rintro e w4 ⟨rfl, rfl⟩))
    all_goals
      go_wp2_with fail
      go_meet
      exact ⟨rfl, blk_new w1 _ rfl, ((Up.refl w1).alloc _).drew⟩
  case rest =>
    obtain ⟨rfl, hs, huc⟩ := hcut
    have hsz1 : w.heap.size < w1.heap.size := lt_of_block Hr0.out
    have c2 := huc.cell_some c2
    have c3 := huc.cell_some c3
    have c4 := huc.cell_some c4
    have hf0 := huc.cell_some hf0
    have hf1 := huc.cell_some hf1
    have s0 : wc.cell? ⟨w1.heap.size, 0, none⟩ = some (.int .i64 1) := cell_of_row wc _ 0 _ _ _ hs
    have s1 : wc.cell? ⟨w1.heap.size, 1, none⟩ = some (.int .i64 xnum) := cell_of_row wc _ 1 _ _ _ hs
    have s2 : wc.cell? ⟨w1.heap.size, 2, none⟩ = some (.int .i64 (howN xk)) := cell_of_row wc _ 2 _ _ _ hs
    have s3 : wc.cell? ⟨w1.heap.size, 3, none⟩ = some (.int .i64 xk) := cell_of_row wc _ 3 _ _ _ hs
    have s4 : wc.cell? ⟨w1.heap.size, 4, none⟩ = some (.int .i64 (-1)) := cell_of_row wc _ 4 _ _ _ hs
    have sf : ∀ o, wc.frozen? ⟨w1.heap.size, o, none⟩ = false := fun o => frozen_of_row wc _ o _ _ hs
    have sz : w1.heap.size < wc.heap.size := lt_of_block hs
    have hr := huc.blk Hr0.out
    have r0 : wc.cell? ⟨w.heap.size, 0, none⟩ = some (.int .i64 0) := cell_of_row wc _ 0 _ _ _ hr
    have r1 : wc.cell? ⟨w.heap.size, 1, none⟩ = some (.int .i64 0) := cell_of_row wc _ 1 _ _ _ hr
    have r2 : wc.cell? ⟨w.heap.size, 2, none⟩ = some (.int .i64 0) := cell_of_row wc _ 2 _ _ _ hr
    have r3 : wc.cell? ⟨w.heap.size, 3, none⟩ = some (.int .i64 0) := cell_of_row wc _ 3 _ _ _ hr
    have r4 : wc.cell? ⟨w.heap.size, 4, none⟩ = some (.int .i64 0) := cell_of_row wc _ 4 _ _ _ hr
    have rf' : ∀ o, wc.frozen? ⟨w.heap.size, o, none⟩ = false := fun o => frozen_of_row wc _ o _ _ hr
    have sne : w1.heap.size ≠ w.heap.size := by omega
    have sne2 : w.heap.size ≠ w1.heap.size := by omega
    have rz : w.heap.size < wc.heap.size := by omega
    have Huw := Lib.hid (Hu0.out.trans huc)
    have Hs := Lib.hid hs; have Hr := Lib.hid hr
    clear hs hr huc Hr0 Hfl hm1 k0 k1
    by_cases h10 : xk = 10
    · subst h10
      have Hst := Lib.hid (show stepX f ⟨xn, xnum, 10, xt, xm, xc⟩ = ⟨4, xnum, 2, 10, idxP (fun m => m.name == xt) f.msgs⟩ by simp [stepX, howN])
      have Hml := Lib.hid (fun wx (u : Up w wx) => find_msg_l _ f xt wx (HF.out.up u))
      generalize idxP (fun m => m.name == xt) f.msgs = im at *
      have n1 : w1.heap.size ≠ b2 := World.new_ne w1 ⟨b2, _, none⟩ ‹w1.cell? ⟨b2, o2 + k * 6 + 2, none⟩ = _›
      have n2 : w1.heap.size ≠ F := World.new_ne w1 ⟨F, 0, none⟩ ‹w1.cell? ⟨F, 0, none⟩ = _›
      rw [show howN 10 = 2 from rfl] at s2
      have g0 : wc.drew.cell? ⟨F, 0, none⟩ = some (.slice mo f.msgs.length mc) := hf0
      have g1 : wc.drew.cell? ⟨F, 1, none⟩ = some (.slice eo f.enums.length ec) := hf1
      have g2 : wc.drew.cell? ⟨b2, o2 + k * 6 + 3, none⟩ = some (.string ⟨xt.toArray⟩) := c3
      have Hsd := Lib.hid (show wc.drew.heap[w1.heap.size]? = _ from Hs.out)
      have Hrd := Lib.hid (show wc.drew.heap[w.heap.size]? = _ from Hr.out)
      go_wp2_with fail
      go_region_held3 (fun w' => w'.cell? ⟨F, 0, none⟩ = some (.slice mo f.msgs.length mc) ∧ w'.cell? ⟨F, 1, none⟩ = some (.slice eo f.enums.length ec) ∧ w'.cell? ⟨b2, o2 + k * 6 + 3, none⟩ = some (.string ⟨xt.toArray⟩))
        (first | exact ⟨g0, g1, g2⟩ | exact hkn | go_keep)
        (first
          | (go_at_call 20; refine (Hml.out wc.drew Huw.out.drew).mono ?_; rintro e w4 ⟨rfl, hu4⟩; have hkn : w4.cell? ⟨F, 0, none⟩ = some (.slice mo f.msgs.length mc) ∧ w4.cell? ⟨F, 1, none⟩ = some (.slice eo f.enums.length ec) ∧ w4.cell? ⟨b2, o2 + k * 6 + 3, none⟩ = some (.string ⟨xt.toArray⟩) := ⟨hu4.cell_some g0, hu4.cell_some g1, hu4.cell_some g2⟩; have hs4 := hu4.blk Hsd.out; have hr4 := hu4.blk Hrd.out; have Hu4 := Lib.hid (Huw.out.drew.trans hu4);  have t0 := cell_of_row w4 _ 0 _ _ _ hs4; have t1 := cell_of_row w4 _ 1 _ _ _ hs4; have t2 := cell_of_row w4 _ 2 _ _ _ hs4; have t3 := cell_of_row w4 _ 3 _ _ _ hs4; have t4 := cell_of_row w4 _ 4 _ _ _ hs4; have tf : ∀ o, w4.frozen? ⟨w1.heap.size, o, none⟩ = false := (fun o => frozen_of_row w4 _ o _ _ hs4); have tz : w1.heap.size < w4.heap.size := lt_of_block hs4; have u0 := cell_of_row w4 _ 0 _ _ _ hr4; have u1 := cell_of_row w4 _ 1 _ _ _ hr4; have u2 := cell_of_row w4 _ 2 _ _ _ hr4; have u3 := cell_of_row w4 _ 3 _ _ _ hr4; have u4 := cell_of_row w4 _ 4 _ _ _ hr4; have uf : ∀ o, w4.frozen? ⟨w.heap.size, o, none⟩ = false := (fun o => frozen_of_row w4 _ o _ _ hr4); have uz : w.heap.size < w4.heap.size := lt_of_block hr4; clear hs4 hr4 hu4)
          | (go_at_call 20; refine (Hml.out (wc.drew.setCell ⟨w1.heap.size, 0, none⟩ (.int .i64 4)) (Up.setCell Huw.out.drew (Nat.le_of_lt hsz1) _)).mono ?_; rintro e w4 ⟨rfl, hu4⟩; have hkn : w4.cell? ⟨F, 0, none⟩ = some (.slice mo f.msgs.length mc) ∧ w4.cell? ⟨F, 1, none⟩ = some (.slice eo f.enums.length ec) ∧ w4.cell? ⟨b2, o2 + k * 6 + 3, none⟩ = some (.string ⟨xt.toArray⟩) := ⟨hu4.cell_some ((World.cell?_setCell_far _ _ _ _ n2).trans g0), hu4.cell_some ((World.cell?_setCell_far _ _ _ _ n2).trans g1), hu4.cell_some ((World.cell?_setCell_far _ _ _ _ n1).trans g2)⟩; have hs4 := hu4.blk (heap_setCell_same wc.drew _ 0 _ _ _ Hsd.out); have hr4 := hu4.blk ((Below.heap_setCell wc.drew ⟨w1.heap.size, 0, none⟩ (.int .i64 4) w.heap.size sne2).trans Hrd.out); have Hu4 := Lib.hid ((Up.setCell Huw.out.drew (Nat.le_of_lt hsz1) _).trans hu4);  have t0 := cell_of_row w4 _ 0 _ _ _ hs4; have t1 := cell_of_row w4 _ 1 _ _ _ hs4; have t2 := cell_of_row w4 _ 2 _ _ _ hs4; have t3 := cell_of_row w4 _ 3 _ _ _ hs4; have t4 := cell_of_row w4 _ 4 _ _ _ hs4; have tf : ∀ o, w4.frozen? ⟨w1.heap.size, o, none⟩ = false := (fun o => frozen_of_row w4 _ o _ _ hs4); have tz : w1.heap.size < w4.heap.size := lt_of_block hs4; have u0 := cell_of_row w4 _ 0 _ _ _ hr4; have u1 := cell_of_row w4 _ 1 _ _ _ hr4; have u2 := cell_of_row w4 _ 2 _ _ _ hr4; have u3 := cell_of_row w4 _ 3 _ _ _ hr4; have u4 := cell_of_row w4 _ 4 _ _ _ hr4; have uf : ∀ o, w4.frozen? ⟨w.heap.size, o, none⟩ = false := (fun o => frozen_of_row w4 _ o _ _ hr4); have uz : w.heap.size < w4.heap.size := lt_of_block hr4; clear hs4 hr4 hu4))
      all_goals
        go_wp2_with fail
        refine bodyPost_ret (v := .agg #[.int .i64 4, .int .i64 xnum, .int .i64 2, .int .i64 10, .int .i64 im]) (by simp [results, Try.results55, go_sem, sne, sne2, uz, tz, t0, t1, t2, t3, t4, u0, u1, u2, u3, u4, howN]) rfl ?_
        rw [Hst.out]
        refine ⟨rfl, ?_⟩
        repeat (first | (with_reducible refine Up.setCell ?_ ?_ _) | (with_reducible refine Up.alloc ?_ _) | (with_reducible refine Up.drew ?_))
        · exact Hu4.out
        all_goals (simp only; omega)
    · have b10 : (xk == 10) = false := by simpa using h10
      by_cases hh : howN xk = 2
      · have bh : (howN xk == 2) = true := by simpa using hh
        have Hst := Lib.hid (show stepX f ⟨xn, xnum, xk, xt, xm, xc⟩ = ⟨3, xnum, howN xk, xk, -1⟩ by simp [stepX, h10, hh])
        have H10 := Lib.hid h10; have Hh := Lib.hid hh
        clear h10 hh
        generalize howN xk = hk at *
        go_wp2_with fail
        refine bodyPost_ret (v := .agg #[.int .i64 3, .int .i64 xnum, .int .i64 hk, .int .i64 xk, .int .i64 (-1)]) (by simp [results, Try.results55, go_sem, sne, sne2, rz, sz, s1, s2, s3, s4, r0, r1, r2, r3, r4]) rfl ?_
        rw [Hst.out]
        refine ⟨rfl, ?_⟩
        repeat (first | (with_reducible refine Up.setCell ?_ ?_ _) | (with_reducible refine Up.alloc ?_ _) | (with_reducible refine Up.drew ?_))
        · exact Huw.out
        all_goals (simp only; omega)
      · have bh : (howN xk == 2) = false := by simpa using hh
        have H10 := Lib.hid h10; have Hh := Lib.hid hh
        have hst : stepX f ⟨xn, xnum, xk, xt, xm, xc⟩ = ⟨if xm then 2 else 1, xnum, howN xk, xk, -1⟩ := by simp [stepX, h10, hh]
        have Hst := Lib.hid hst
        clear h10 hh hst
        generalize howN xk = hk at *
        cases xm
        case' false => obtain ⟨kd, hkd⟩ : ∃ kd : Int, kd = 1 := ⟨_, rfl⟩
        case' true => obtain ⟨kd, hkd⟩ : ∃ kd : Int, kd = 2 := ⟨_, rfl⟩
        all_goals
          go_wp2_with fail
          refine bodyPost_ret (v := .agg #[.int .i64 kd, .int .i64 xnum, .int .i64 hk, .int .i64 xk, .int .i64 (-1)]) (by simp [results, Try.results55, go_sem, sne, sne2, rz, sz, s0, s1, s2, s3, s4, r0, r1, r2, r3, r4, hkd]) rfl ?_
          rw [Hst.out, hkd]
          refine ⟨rfl, ?_⟩
          repeat (first | (with_reducible refine Up.setCell ?_ ?_ _) | (with_reducible refine Up.alloc ?_ _) | (with_reducible refine Up.drew ?_))
          · exact Huw.out
          all_goals (simp only; omega)
end Go.Proofs.Ytplgegffapikoaa
