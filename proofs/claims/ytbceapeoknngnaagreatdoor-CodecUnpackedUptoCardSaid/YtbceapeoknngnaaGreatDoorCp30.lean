/-
  Two bodies put together, with what is wrong: body.Join.
-/
import Derived.Test.YtbceapeoknngnaaGreatDoorCp22
import Derived.Test.YtbceapeoknngnaaGreatDoorCp07
import Derived.Test.YtbceapeoknngnaaGreatDoorCp29
import Derived.Test.YtbceapeoknngnaaGreatDoorCp21
set_option linter.unusedVariables false
namespace Go.Proofs.YtbceapeoknngnaaGreatDoor
open Go.RowKit
def joinA (f : Fil) (msg : Int) (a b : Bod) : Bod × Int :=
  if wrongA f msg a ≠ 0 then (bod0, wrongA f msg a)
  else if wrongA f msg b ≠ 0 then (bod0, wrongA f msg b)
  else if wrongA f msg (joinB f 12 msg a b) ≠ 0 then (bod0, wrongA f msg (joinB f 12 msg a b))
  else (joinB f 12 msg a b, 0)
theorem wrongA_zero {f : Fil} {msg : Int} {x : Bod} (h : wrongA f msg x = 0) : (wrongN f).1 = 0 ∧ 0 ≤ msg ∧ msg < f.msgs.length ∧ wrongB f 12 msg x = 0 := by
  unfold wrongA at h
  split at h
  · contradiction
  · split at h
    · cases h
    · exact ⟨by simpa using ‹¬ (wrongN f).1 ≠ 0›, by omega, by omega, h⟩
theorem bod0_at (d : Nat) (S : Nat → Prop) (w : World) : DBodF (d + 1) S w bod0 [.slice none 0 0, .slice none 0 0] :=
  ⟨_, _, rfl, rdS_nil _ _ _ _, rdS_nil _ _ _ _, by unfold BodSz bod0 Bod.values Bod.unknown; simp⟩
theorem bod_all {d : Nat} {S : Nat → Prop} {w : World} {b : Bod} {cs : List Value} (h : DBodF d S w b cs) : DBodF d All w b cs := stable_bod d _ _ _ _ _ _ Keep.all h
set_option maxRecDepth 100000 in
set_option maxHeartbeats 6400000 in
theorem join_any (N d : Nat) (hN : N * 2 * 48 ≤ 140737488355328) (f : Fil) (fv va ua vb ub : Value) (msg : Int) (a b : Bod) (w : World) (hf : FilV All w fv f) (hda : DBodF d All w a [va, ua]) (hdb : DBodF d All w b [vb, ub]) (hT : Tabs w) (hna : UnkLe N 12 a) (hnb : UnkLe N 12 b) :
    Calls Tryz.prog 34 #[fv, .int .i64 msg, .agg #[va, ua], .agg #[vb, ub]] w fun e w' => ∃ vv vu, e = .returned (.tuple #[.agg #[vv, vu], .int .i64 (joinA f msg a b).2]) ∧ DBodF d (From w.heap.size) w' (joinA f msg a b).1 [vv, vu] ∧ Up w w' := by
  obtain ⟨vm, ve, rfl, hm', he''⟩ := id hf
  obtain ⟨ma, mc, rfl, _, _⟩ := hm'.val
  obtain ⟨ea, ec, rfl, _, _⟩ := he''.val
  cases d with
  | zero => exact hda.elim
  | succ d =>
  obtain ⟨a1, l1, c1, a2, l2, c2, hab⟩ := bod_two hda
  obtain ⟨b1, m1, e1, b2, m2, e2, hbb⟩ := bod_two hdb
  simp only [List.cons.injEq, and_true] at hab hbb
  obtain ⟨rfl, rfl⟩ := hab
  obtain ⟨rfl, rfl⟩ := hbb
  have Hf := Lib.hid hf; have Hda := Lib.hid hda; have Hdb := Lib.hid hdb; have HT := Lib.hid hT; have Hna := Lib.hid hna; have Hnb := Lib.hid hnb
  clear hf hda hdb hT hna hnb hm' he''
  obtain ⟨ANS, hANS⟩ : ∃ ANS, joinA f msg a b = ANS := ⟨_, rfl⟩
  rw [hANS]
  unfold joinA at hANS
  have HA := Lib.hid hANS
  clear hANS
  have HZ := Lib.hid (fun (w' : World) => bod0_at d (From w.heap.size) w')
  go_enter Tryz.func34, Tryz.ntmps34
  go_upto_region 1 with (fail)
  generalize hW : (((w.alloc (.cells #[.slice ma f.msgs.length mc, .slice ea f.enums.length ec] 25)).alloc (.cells #[.slice a1 l1 c1, .slice a2 l2 c2] 29)).alloc (.cells #[.slice b1 m1 e1, .slice b2 m2 e2] 29)).alloc (.cells #[.slice none 0 0, .slice none 0 0] 29) = w1
  have hb0 : w1.heap[w.heap.size]? = some (.cells #[.slice ma f.msgs.length mc, .slice ea f.enums.length ec] 25 (0, 0)) := by rw [← hW]; exact blk_old _ (blk_old _ (blk_old _ (blk_new w _ rfl)))
  have hb1 : w1.heap[w.heap.size + 1]? = some (.cells #[.slice a1 l1 c1, .slice a2 l2 c2] 29 (0, 0)) := by rw [← hW]; exact blk_old _ (blk_old _ (blk_new (w.alloc _) _ (by simp)))
  have hb2 : w1.heap[w.heap.size + 2]? = some (.cells #[.slice b1 m1 e1, .slice b2 m2 e2] 29 (0, 0)) := by rw [← hW]; exact blk_old _ (blk_new ((w.alloc _).alloc _) _ (by simp))
  have hb3 : w1.heap[w.heap.size + 3]? = some (.cells #[.slice none 0 0, .slice none 0 0] 29 (0, 0)) := by rw [← hW]; exact blk_new (((w.alloc _).alloc _).alloc _) _ (by simp)
  have hu1 : Up w w1 := by rw [← hW]; exact ((((Up.refl w).alloc _).alloc _).alloc _).alloc _
  have hz1 : w1.heap.size = w.heap.size + 4 := by rw [← hW]; simp
  clear hW
  have a0 : w1.cell? ⟨w.heap.size + 1, 0, none⟩ = some (.slice a1 l1 c1) := cell_of_row w1 _ 0 _ _ _ hb1
  have a1' : w1.cell? ⟨w.heap.size + 1, 1, none⟩ = some (.slice a2 l2 c2) := cell_of_row w1 _ 1 _ _ _ hb1
  have b0 : w1.cell? ⟨w.heap.size + 1 + 1, 0, none⟩ = some (.slice b1 m1 e1) := cell_of_row w1 _ 0 _ _ _ hb2
  have b1' : w1.cell? ⟨w.heap.size + 1 + 1, 1, none⟩ = some (.slice b2 m2 e2) := cell_of_row w1 _ 1 _ _ _ hb2
  go_upto_region 2 with (fail)
  have hb4 : (w1.alloc (.cells #[.slice a1 l1 c1, .slice a2 l2 c2, .slice b1 m1 e1, .slice b2 m2 e2] 29)).heap[w.heap.size + 4]? = some (.cells #[.slice a1 l1 c1, .slice a2 l2 c2, .slice b1 m1 e1, .slice b2 m2 e2] 29 (0, 0)) := blk_new w1 _ (by omega)
  have hu2 := hu1.alloc (.cells #[.slice a1 l1 c1, .slice a2 l2 c2, .slice b1 m1 e1, .slice b2 m2 e2] 29)
  have hb0 := blk_old (.cells #[.slice a1 l1 c1, .slice a2 l2 c2, .slice b1 m1 e1, .slice b2 m2 e2] 29) hb0
  have hb1 := blk_old (.cells #[.slice a1 l1 c1, .slice a2 l2 c2, .slice b1 m1 e1, .slice b2 m2 e2] 29) hb1
  have hb2 := blk_old (.cells #[.slice a1 l1 c1, .slice a2 l2 c2, .slice b1 m1 e1, .slice b2 m2 e2] 29) hb2
  have hb3 := blk_old (.cells #[.slice a1 l1 c1, .slice a2 l2 c2, .slice b1 m1 e1, .slice b2 m2 e2] 29) hb3
  generalize hw2 : w1.alloc (.cells #[.slice a1 l1 c1, .slice a2 l2 c2, .slice b1 m1 e1, .slice b2 m2 e2] 29) = w2 at *
  clear hw2 a0 a1' b0 b1' hu1
  have Hb0 := Lib.hid hb0; have Hb1 := Lib.hid hb1; have Hb2 := Lib.hid hb2; have Hb3 := Lib.hid hb3; have Hb4 := Lib.hid hb4; have Hu2 := Lib.hid hu2
  clear hb0 hb1 hb2 hb3 hb4 hu2 hz1
  go_wp2_with fail
  go_loopw [19] (fun i wr => ∃ k2 : Nat, k2 ≤ 2 ∧ i = .int .i64 k2 ∧ Up w2 wr ∧ (1 ≤ k2 → wrongA f msg a = 0) ∧ (2 ≤ k2 → wrongA f msg b = 0)) (fun i _ => 2 - (intOf i).toNat)
  case atStart => exact ⟨0, by omega, rfl, Up.refl _, fun h => absurd h (by omega), fun h => absurd h (by omega)⟩
  case round =>
    obtain ⟨k2, hk2, rfl, hu, hwa, hwb⟩ := hrel
    have Hu := Lib.hid hu; have Hwa := Lib.hid hwa; have Hwb := Lib.hid hwb
    have r0 : wr.cell? ⟨w.heap.size + 1 + 1 + 1, 0, none⟩ = some (.slice none 0 0) := cell_of_row wr _ 0 _ _ _ (hu.blk Hb3.out)
    have r1 : wr.cell? ⟨w.heap.size + 1 + 1 + 1, 1, none⟩ = some (.slice none 0 0) := cell_of_row wr _ 1 _ _ _ (hu.blk Hb3.out)
    have y0 : wr.cell? ⟨w.heap.size + 4, 0, none⟩ = some (.slice a1 l1 c1) := cell_of_row wr _ 0 _ _ _ (hu.blk Hb4.out)
    have y1 : wr.cell? ⟨w.heap.size + 4, 1, none⟩ = some (.slice a2 l2 c2) := cell_of_row wr _ 1 _ _ _ (hu.blk Hb4.out)
    have y2 : wr.cell? ⟨w.heap.size + 4, 2, none⟩ = some (.slice b1 m1 e1) := cell_of_row wr _ 2 _ _ _ (hu.blk Hb4.out)
    have y3 : wr.cell? ⟨w.heap.size + 4, 3, none⟩ = some (.slice b2 m2 e2) := cell_of_row wr _ 3 _ _ _ (hu.blk Hb4.out)
    have rz : w.heap.size + 1 + 1 + 1 < wr.heap.size := lt_of_block (hu.blk Hb3.out)
    have Hret := Lib.hid (fun (W : World) (u : Up w2 W) => (⟨cell_of_row W _ 0 _ _ _ (u.blk Hb3.out), cell_of_row W _ 1 _ _ _ (u.blk Hb3.out), fun o => frozen_of_row W _ o _ _ (u.blk Hb3.out), lt_of_block (u.blk Hb3.out)⟩ : W.cell? ⟨w.heap.size + 1 + 1 + 1, 0, none⟩ = some (.slice none 0 0) ∧ W.cell? ⟨w.heap.size + 1 + 1 + 1, 1, none⟩ = some (.slice none 0 0) ∧ (∀ o, W.frozen? ⟨w.heap.size + 1 + 1 + 1, o, none⟩ = false) ∧ w.heap.size + 1 + 1 + 1 < W.heap.size))
    clear hu hwa hwb
    rcases (show k2 = 0 ∨ k2 = 1 ∨ k2 = 2 by omega) with rfl | rfl | rfl
    · clear y2 y3 r0 r1
      obtain ⟨wq, rfl⟩ : ∃ wq : World, wq = wr := ⟨_, rfl⟩
      go_upto_region 4 with (fail)
      have hbx := blk_new wq (.cells #[.slice a1 l1 c1, .slice a2 l2 c2] 29) (g := wq.heap.size) rfl
      have hux := Hu.out.trans ((Up.refl wq).alloc (.cells #[.slice a1 l1 c1, .slice a2 l2 c2] 29))
      generalize hwx : wq.alloc (.cells #[.slice a1 l1 c1, .slice a2 l2 c2] 29) = wx at *
      obtain ⟨T, hT⟩ : ∃ T, wq.heap.size = T := ⟨_, rfl⟩
      rw [hT] at hbx ⊢
      have f0 : wx.cell? ⟨w.heap.size, 0, none⟩ = some (.slice ma f.msgs.length mc) := cell_of_row wx _ 0 _ _ _ (hux.blk Hb0.out)
      have f1 : wx.cell? ⟨w.heap.size, 1, none⟩ = some (.slice ea f.enums.length ec) := cell_of_row wx _ 1 _ _ _ (hux.blk Hb0.out)
      have t0 : wx.cell? ⟨T, 0, none⟩ = some (.slice a1 l1 c1) := cell_of_row wx _ 0 _ _ _ hbx
      have t1 : wx.cell? ⟨T, 1, none⟩ = some (.slice a2 l2 c2) := cell_of_row wx _ 1 _ _ _ hbx
      have Hux := Lib.hid hux
      clear hwx hbx hux y0 y1 rz
      go_wp2_with fail
      refine (wrong_bod (d + 1) _ _ _ f msg a _ (Hf.out.up (Hu2.out.trans Hux.out)) (stable_bod _ _ _ _ _ _ _ (Keep.upS (Hu2.out.trans Hux.out)) Hda.out) (HT.out.up (Hu2.out.trans Hux.out))).mono ?_
      rintro e w5 ⟨rfl, hu5⟩
      have hu25 := Hux.out.trans hu5
      obtain ⟨r0, r1, rf', rz5⟩ := Hret.out w5 hu25
      have Hu25 := Lib.hid hu25
      clear hu5 hu25 f0 f1 t0 t1
      by_cases hw0 : wrongA f msg a = 0
      · have hW := Lib.hid hw0
        rw [hw0]
        clear hw0
        go_wp2_with fail
        go_roundw
        case rel => exact ⟨1, by omega, rfl, Hu25.out, fun _ => hW.out, fun h => absurd h (by omega)⟩
        case measure => simp [intOf]
      · have hA := HA.out
        rw [if_pos hw0] at hA
        subst hA
        clear HA
        generalize hE : wrongA f msg a = E at *
        go_wp2_with fail
        refine bodyPost_ret (v := .tuple #[.agg #[.slice none 0 0, .slice none 0 0], .int .i64 E]) (by simp [results, Tryz.results34, go_sem, r0, r1]) rfl ?_
        refine ⟨_, _, ?_, HZ.out _, Up.setCell (Up.setCell (Hu2.out.trans Hu25.out) (p := ⟨w.heap.size + 1 + 1 + 1, 0, none⟩) (show w.heap.size ≤ w.heap.size + 1 + 1 + 1 by omega) _) (p := ⟨w.heap.size + 1 + 1 + 1, 1, none⟩) (show w.heap.size ≤ w.heap.size + 1 + 1 + 1 by omega) _⟩
        rfl
    · clear y0 y1 r0 r1
      obtain ⟨wq, rfl⟩ : ∃ wq : World, wq = wr := ⟨_, rfl⟩
      go_upto_region 4 with (fail)
      have hbx := blk_new wq (.cells #[.slice b1 m1 e1, .slice b2 m2 e2] 29) (g := wq.heap.size) rfl
      have hux := Hu.out.trans ((Up.refl wq).alloc (.cells #[.slice b1 m1 e1, .slice b2 m2 e2] 29))
      generalize hwx : wq.alloc (.cells #[.slice b1 m1 e1, .slice b2 m2 e2] 29) = wx at *
      obtain ⟨T, hT⟩ : ∃ T, wq.heap.size = T := ⟨_, rfl⟩
      rw [hT] at hbx ⊢
      have f0 : wx.cell? ⟨w.heap.size, 0, none⟩ = some (.slice ma f.msgs.length mc) := cell_of_row wx _ 0 _ _ _ (hux.blk Hb0.out)
      have f1 : wx.cell? ⟨w.heap.size, 1, none⟩ = some (.slice ea f.enums.length ec) := cell_of_row wx _ 1 _ _ _ (hux.blk Hb0.out)
      have t0 : wx.cell? ⟨T, 0, none⟩ = some (.slice b1 m1 e1) := cell_of_row wx _ 0 _ _ _ hbx
      have t1 : wx.cell? ⟨T, 1, none⟩ = some (.slice b2 m2 e2) := cell_of_row wx _ 1 _ _ _ hbx
      have Hux := Lib.hid hux
      clear hwx hbx hux y2 y3 rz
      go_wp2_with fail
      refine (wrong_bod (d + 1) _ _ _ f msg b _ (Hf.out.up (Hu2.out.trans Hux.out)) (stable_bod _ _ _ _ _ _ _ (Keep.upS (Hu2.out.trans Hux.out)) Hdb.out) (HT.out.up (Hu2.out.trans Hux.out))).mono ?_
      rintro e w5 ⟨rfl, hu5⟩
      have hu25 := Hux.out.trans hu5
      obtain ⟨r0, r1, rf', rz5⟩ := Hret.out w5 hu25
      have Hu25 := Lib.hid hu25
      clear hu5 hu25 f0 f1 t0 t1
      by_cases hw0 : wrongA f msg b = 0
      · have hW := Lib.hid hw0
        rw [hw0]
        clear hw0
        go_wp2_with fail
        go_roundw
        case rel => exact ⟨2, by omega, rfl, Hu25.out, fun _ => Hwa.out (Nat.le_refl 1), fun _ => hW.out⟩
        case measure => simp [intOf]
      · have hA := HA.out
        rw [if_neg (by simpa using Hwa.out (Nat.le_refl 1))] at hA
        rw [if_pos hw0] at hA
        subst hA
        clear HA
        generalize hE : wrongA f msg b = E at *
        go_wp2_with fail
        refine bodyPost_ret (v := .tuple #[.agg #[.slice none 0 0, .slice none 0 0], .int .i64 E]) (by simp [results, Tryz.results34, go_sem, r0, r1]) rfl ?_
        refine ⟨_, _, ?_, HZ.out _, Up.setCell (Up.setCell (Hu2.out.trans Hu25.out) (p := ⟨w.heap.size + 1 + 1 + 1, 0, none⟩) (show w.heap.size ≤ w.heap.size + 1 + 1 + 1 by omega) _) (p := ⟨w.heap.size + 1 + 1 + 1, 1, none⟩) (show w.heap.size ≤ w.heap.size + 1 + 1 + 1 by omega) _⟩
        rfl
    · clear y0 y1 y2 y3 r0 r1 rz
      obtain ⟨wq, rfl⟩ : ∃ wq : World, wq = wr := ⟨_, rfl⟩
      have hwa := Hwa.out (by omega)
      have hwb := Hwb.out (Nat.le_refl 2)
      have hA := HA.out
      rw [if_neg (by simpa using hwa), if_neg (by simpa using hwb)] at hA
      have HA2 := Lib.hid hA
      obtain ⟨hright, hm0, hm1, hka⟩ := wrongA_zero hwa
      obtain ⟨_, _, _, hkb⟩ := wrongA_zero hwb
      have Hj := Lib.hid (fun S => join_c N hN f hright 12 (d + 1) S msg a b)
      have Hright := Lib.hid hright; have Hm0 := Lib.hid hm0; have Hm1 := Lib.hid hm1; have Hka := Lib.hid hka; have Hkb := Lib.hid hkb
      clear HA hA hwa hwb hright hm0 hm1 hka hkb Hwa Hwb hk2
      go_upto_region 8 with (fail)
      have a0 : wq.cell? ⟨w.heap.size + 1, 0, none⟩ = some (.slice a1 l1 c1) := cell_of_row wq _ 0 _ _ _ (Hu.out.blk Hb1.out)
      have a1' : wq.cell? ⟨w.heap.size + 1, 1, none⟩ = some (.slice a2 l2 c2) := cell_of_row wq _ 1 _ _ _ (Hu.out.blk Hb1.out)
      have b0 : wq.cell? ⟨w.heap.size + 1 + 1, 0, none⟩ = some (.slice b1 m1 e1) := cell_of_row wq _ 0 _ _ _ (Hu.out.blk Hb2.out)
      have b1' : wq.cell? ⟨w.heap.size + 1 + 1, 1, none⟩ = some (.slice b2 m2 e2) := cell_of_row wq _ 1 _ _ _ (Hu.out.blk Hb2.out)
      have DD := Lib.hid (fun W (u : Up wq W) => (⟨u.cell_some a0, u.cell_some a1', u.cell_some b0, u.cell_some b1'⟩ : W.cell? ⟨w.heap.size + 1, 0, none⟩ = some (.slice a1 l1 c1) ∧ W.cell? ⟨w.heap.size + 1, 1, none⟩ = some (.slice a2 l2 c2) ∧ W.cell? ⟨w.heap.size + 1 + 1, 0, none⟩ = some (.slice b1 m1 e1) ∧ W.cell? ⟨w.heap.size + 1 + 1, 1, none⟩ = some (.slice b2 m2 e2)))
      have Hfa := Lib.hid (fun W (u : Up wq W) => (⟨_, _, cell_of_row W _ 0 _ _ _ (u.blk (Hu.out.blk Hb0.out)), cell_of_row W _ 1 _ _ _ (u.blk (Hu.out.blk Hb0.out)), Hf.out.up ((Hu2.out.trans Hu.out).trans u)⟩ : FilAt W w.heap.size f))
      have HA0 := Lib.hid (fun W (u : Up wq W) => stable_bod _ _ _ _ _ _ _ (Keep.upS ((Hu2.out.trans Hu.out).trans u)) Hda.out)
      have HB0 := Lib.hid (fun W (u : Up wq W) => stable_bod _ _ _ _ _ _ _ (Keep.upS ((Hu2.out.trans Hu.out).trans u)) Hdb.out)
      have hq4 : w.heap.size + 4 < wq.heap.size := lt_of_block (Hu.out.blk Hb4.out)
      go_cut [13] (fun p wc => ∃ (G : Nat) (vv vu : Value), p = .pointer (some ⟨G, 0, none⟩) ∧ wc.heap[G]? = some (.cells #[vv, vu] 29 (0, 0)) ∧ DBodF (d + 1) (fun b => w.heap.size + 4 < b) wc (joinB f 12 msg a b) [vv, vu] ∧ Up wq wc)
      case first =>
        refine wp_region_last (m := 7) (by kernel_rfl) (by rfl) (by kernel_rfl) (by kernel_rfl) (by kernel_rfl) (S := fun w' => w'.cell? ⟨w.heap.size + 1, 0, none⟩ = some (.slice a1 l1 c1) ∧ w'.cell? ⟨w.heap.size + 1, 1, none⟩ = some (.slice a2 l2 c2) ∧ w'.cell? ⟨w.heap.size + 1 + 1, 0, none⟩ = some (.slice b1 m1 e1) ∧ w'.cell? ⟨w.heap.size + 1 + 1, 1, none⟩ = some (.slice b2 m2 e2)) ?_
        have hHeld : (fun w' : World => w'.cell? ⟨w.heap.size + 1, 0, none⟩ = some (.slice a1 l1 c1) ∧ w'.cell? ⟨w.heap.size + 1, 1, none⟩ = some (.slice a2 l2 c2) ∧ w'.cell? ⟨w.heap.size + 1 + 1, 0, none⟩ = some (.slice b1 m1 e1) ∧ w'.cell? ⟨w.heap.size + 1 + 1, 1, none⟩ = some (.slice b2 m2 e2)) wq.drew := ⟨a0, a1', b0, b1'⟩
        change wpAnyH _ _ _ _ _ _ _ _ wq.drew
        have hu := (Up.refl wq).drew
        clear a0 a1' b0 b1'
        refine wpAnyH_take (i := 0) (v := ?_) rfl (by kernel_rfl) (by kernel_rfl) (by kernel_rfl) (fun _ _ _ h => h) (Or.inl ⟨by rfl, ?_⟩) (by assumption) ?_
        rotate_left
        · (intro w hSw; (try dsimp only at hSw); go_simp)
          try with_reducible rfl
        rotate_left
        try simp only [Act.put, List.setIfInBounds_toArray]
        refine wpAnyH_take (i := 1) (v := ?_) rfl (by kernel_rfl) (by kernel_rfl) (by kernel_rfl) (fun _ _ _ h => h) (Or.inl ⟨by rfl, ?_⟩) (by assumption) ?_
        rotate_left
        · (intro w hSw; (try dsimp only at hSw); go_simp)
          try with_reducible rfl
        rotate_left
        try simp only [Act.put]
        refine wpAnyH_take (i := 3) (v := ?_) rfl (by kernel_rfl) (by kernel_rfl) (by kernel_rfl) (fun _ _ _ h => h) (Or.inl ⟨by rfl, ?_⟩) (by assumption) ?_
        rotate_left
        · (intro w hSw; (try dsimp only at hSw); go_simp)
          try with_reducible rfl
        rotate_left
        try simp only [Act.put]
        refine wpAnyH_ready (rs := [2, 6]) (by kernel_rfl) (by simp) ?_
        refine AllReadyH.cons rfl (fun K hK => ?_) (AllReadyH.cons rfl (fun K hK => ?_) AllReadyH.nil)
        · go_simp
          refine (own_b (d + 1) a _ _ _ (HA0.out _ hu)).mono ?_
          rintro e w5 ⟨vv5, vu5, rfl, hd, hs⟩
          have H5 := Lib.hid (stable_bod (d + 1) _ _ (fun b : Nat => wq.heap.size ≤ b) _ _ _ (Keep.weak (fun b (hb : From _ b) => Nat.le_trans hu.size hb)) hd)
          have hu := hu.trans hs
          refine hK.out _ _ (DD.out _ hu) (fun hHeld => ?_)
          clear hK K hHeld hd hs
          have hHeld := DD.out _ hu
          try simp only [Act.put, List.setIfInBounds_toArray, List.set_cons_zero, List.set_cons_succ]
          refine wpAnyH_ready (rs := [4, 6]) (by kernel_rfl) (by simp) ?_
          refine AllReadyH.cons rfl (fun K hK => ?_) (AllReadyH.cons rfl (fun K hK => ?_) AllReadyH.nil)
          · go_simp
            refine (own_b (d + 1) b _ _ _ (HB0.out _ hu)).mono ?_
            rintro e w6 ⟨vv6, vu6, rfl, hd, hs⟩
            have H6 := Lib.hid (stable_bod (d + 1) _ _ (fun b : Nat => wq.heap.size ≤ b) _ _ _ (Keep.weak (fun b (hb : From _ b) => Nat.le_trans hu.size hb)) hd)
            have H5 := Lib.hid (stable_bod _ _ _ _ _ _ _ (Keep.upS hs) H5.out)
            have hu := hu.trans hs
            refine hK.out _ _ (DD.out _ hu) (fun hHeld => ?_)
            clear hK K hHeld hd hs
            have hHeld := DD.out _ hu
            try simp only [Act.put, List.setIfInBounds_toArray, List.set_cons_zero, List.set_cons_succ]
            refine wpAnyH_ready (rs := [5, 6]) (by kernel_rfl) (by simp) ?_
            refine AllReadyH.cons rfl (fun K hK => ?_) (AllReadyH.cons rfl (fun K hK => ?_) AllReadyH.nil)
            · go_simp
              refine (Hj.out (fun b : Nat => wq.heap.size ≤ b) vv5 vu5 vv6 vu6 w.heap.size _ Hm0.out Hm1.out (Hfa.out _ hu) H5.out H6.out Hka.out Hkb.out Hna.out Hnb.out).mono ?_
              rintro e w7 ⟨vv7, vu7, rfl, hd, hs⟩
              obtain ⟨x1, y1, z1, x2, y2, z2, hxy⟩ := bod_two hd
              simp only [List.cons.injEq, and_true] at hxy
              obtain ⟨rfl, rfl⟩ := hxy
              have H7 := Lib.hid (stable_bod (d + 1) _ _ (fun b : Nat => wq.heap.size ≤ b) _ _ _ (Keep.weak (fun b hb => by rcases hb with hb | hb; exact hb; exact Nat.le_trans hu.size hb)) hd)
              have hu := hu.trans hs
              refine hK.out _ _ (DD.out _ hu) (fun hHeld => ?_)
              clear hK K hHeld hd hs
              have hHeld := DD.out _ hu
              try simp only [Act.put, List.setIfInBounds_toArray, List.set_cons_zero, List.set_cons_succ]
              refine wpAnyH_ready (rs := [6]) (by kernel_rfl) (by simp) ?_
              refine AllReadyH.cons rfl (fun K hK => ?_) AllReadyH.nil
              go_simp
              have hs : Up w7 (w7.alloc (.cells #[.slice none 0 0, .slice none 0 0] 29)) := (Up.refl w7).alloc _
              have hka : Keep (fun b : Nat => wq.heap.size ≤ b) w7 (fun b : Nat => wq.heap.size ≤ b ∧ b ≠ w7.heap.size) (w7.alloc (.cells #[.slice none 0 0, .slice none 0 0] 29)) := fun k h0 hk => ⟨hs.block k hk, h0, Nat.ne_of_lt hk⟩
              have hbg : (w7.alloc (.cells #[.slice none 0 0, .slice none 0 0] 29)).heap[w7.heap.size]? = some (.cells #[.slice none 0 0, .slice none 0 0] 29 (0, 0)) := blk_new w7 (.cells #[.slice none 0 0, .slice none 0 0] 29) rfl
              have hqg0 : ∀ x, w7.heap.size = x → wq.heap.size ≤ x := fun x e => e ▸ hu.size
              have hu : Up wq (w7.alloc (.cells #[.slice none 0 0, .slice none 0 0] 29)) := hu.trans hs
              refine hK.out _ _ (DD.out _ hu) (fun hHeld => ?_)
              clear hK K hHeld
              obtain ⟨G, hG⟩ : ∃ G, w7.heap.size = G := ⟨_, rfl⟩
              have hqg := hqg0 G hG
              clear hqg0
              rw [hG] at hka hbg
              have hHeld := DD.out _ hu
              have H7 := Lib.hid (stable_bod _ _ _ _ _ _ _ (hka) H7.out)
              obtain ⟨w8, hww8⟩ : ∃ x, w7.alloc (.cells #[.slice none 0 0, .slice none 0 0] 29) = x := ⟨_, rfl⟩
              rw [hww8] at hu hbg hHeld hs hka H7 ⊢
              try rw [hG]
              clear hww8 hka
              try simp only [Act.put, List.setIfInBounds_toArray, List.set_cons_zero, List.set_cons_succ]
              refine wpAnyH_done (by kernel_rfl) ?_ _
              have q0 : w8.cell? ⟨G, 0, none⟩ = some (.slice none 0 0) := cell_of_row w8 G 0 _ _ _ hbg
              have q1 : w8.cell? ⟨G, 1, none⟩ = some (.slice none 0 0) := cell_of_row w8 G 1 _ _ _ hbg
              have tf : ∀ o, w8.frozen? ⟨G, o, none⟩ = false := fun o => frozen_of_row w8 G o _ _ hbg
              have tz : G < w8.heap.size := lt_of_block hbg
              have Hbg := Lib.hid hbg; have Hug := Lib.hid hu; have Hqg := Lib.hid hqg
              clear hbg hu hHeld DD hqg
              refine AskLast.normal (wpOp_step rfl (fun K' hK' => ?_))
              go_simp
              refine hK' _ _ ?_
              clear hK'
              go_wp2_with fail
              go_meet
              exact ⟨G, _, _, rfl, box2_set Hbg.out _ _, stable_bod _ _ _ _ _ _ _ (((Keep.setCell (S := (fun b : Nat => wq.heap.size ≤ b ∧ b ≠ G)) (p := ⟨G, 0, none⟩) (fun h => h.2 rfl) _).trans (Keep.setCell (p := ⟨G, 1, none⟩) (fun h => h.2 rfl) _)).trans (Keep.weak (fun b h => Nat.lt_of_lt_of_le hq4 h.1))) H7.out, Up.setCell (Up.setCell Hug.out (p := ⟨G, 0, none⟩) Hqg.out _) (p := ⟨G, 1, none⟩) Hqg.out _⟩
            · go_simp
              have hs : Up w6 (w6.alloc (.cells #[.slice none 0 0, .slice none 0 0] 29)) := (Up.refl w6).alloc _
              have hka : Keep (fun b : Nat => wq.heap.size ≤ b) w6 (fun b : Nat => wq.heap.size ≤ b ∧ b ≠ w6.heap.size) (w6.alloc (.cells #[.slice none 0 0, .slice none 0 0] 29)) := fun k h0 hk => ⟨hs.block k hk, h0, Nat.ne_of_lt hk⟩
              have hbg : (w6.alloc (.cells #[.slice none 0 0, .slice none 0 0] 29)).heap[w6.heap.size]? = some (.cells #[.slice none 0 0, .slice none 0 0] 29 (0, 0)) := blk_new w6 (.cells #[.slice none 0 0, .slice none 0 0] 29) rfl
              have hqg0 : ∀ x, w6.heap.size = x → wq.heap.size ≤ x := fun x e => e ▸ hu.size
              have hu : Up wq (w6.alloc (.cells #[.slice none 0 0, .slice none 0 0] 29)) := hu.trans hs
              refine hK.out _ _ (DD.out _ hu) (fun hHeld => ?_)
              clear hK K hHeld
              obtain ⟨G, hG⟩ : ∃ G, w6.heap.size = G := ⟨_, rfl⟩
              have hqg := hqg0 G hG
              clear hqg0
              rw [hG] at hka hbg
              have hHeld := DD.out _ hu
              have H5 := Lib.hid (stable_bod _ _ _ _ _ _ _ (hka) H5.out)
              have H6 := Lib.hid (stable_bod _ _ _ _ _ _ _ (hka) H6.out)
              obtain ⟨w7, hww7⟩ : ∃ x, w6.alloc (.cells #[.slice none 0 0, .slice none 0 0] 29) = x := ⟨_, rfl⟩
              rw [hww7] at hu hbg hHeld hs hka H5 H6 ⊢
              try rw [hG]
              clear hww7 hka
              try simp only [Act.put, List.setIfInBounds_toArray, List.set_cons_zero, List.set_cons_succ]
              refine wpAnyH_ready (rs := [5]) (by kernel_rfl) (by simp) ?_
              refine AllReadyH.cons rfl (fun K hK => ?_) AllReadyH.nil
              go_simp
              refine (Hj.out (fun b : Nat => wq.heap.size ≤ b ∧ b ≠ G) vv5 vu5 vv6 vu6 w.heap.size _ Hm0.out Hm1.out (Hfa.out _ hu) H5.out H6.out Hka.out Hkb.out Hna.out Hnb.out).mono ?_
              rintro e w8 ⟨vv7, vu7, rfl, hd, hs⟩
              obtain ⟨x1, y1, z1, x2, y2, z2, hxy⟩ := bod_two hd
              simp only [List.cons.injEq, and_true] at hxy
              obtain ⟨rfl, rfl⟩ := hxy
              have H7 := Lib.hid (stable_bod (d + 1) _ _ (fun b : Nat => wq.heap.size ≤ b ∧ b ≠ G) _ _ _ (Keep.weak (fun b hb => by have := lt_of_block hbg; rcases hb with hb | hb; exact hb; exact ⟨Nat.le_trans hu.size hb, by omega⟩)) hd)
              have hbg := hs.blk hbg
              have hu := hu.trans hs
              refine hK.out _ _ (DD.out _ hu) (fun hHeld => ?_)
              clear hK K hHeld hd hs
              have hHeld := DD.out _ hu
              try simp only [Act.put, List.setIfInBounds_toArray, List.set_cons_zero, List.set_cons_succ]
              refine wpAnyH_done (by kernel_rfl) ?_ _
              have q0 : w8.cell? ⟨G, 0, none⟩ = some (.slice none 0 0) := cell_of_row w8 G 0 _ _ _ hbg
              have q1 : w8.cell? ⟨G, 1, none⟩ = some (.slice none 0 0) := cell_of_row w8 G 1 _ _ _ hbg
              have tf : ∀ o, w8.frozen? ⟨G, o, none⟩ = false := fun o => frozen_of_row w8 G o _ _ hbg
              have tz : G < w8.heap.size := lt_of_block hbg
              have Hbg := Lib.hid hbg; have Hug := Lib.hid hu; have Hqg := Lib.hid hqg
              clear hbg hu hHeld DD hqg
              refine AskLast.normal (wpOp_step rfl (fun K' hK' => ?_))
              go_simp
              refine hK' _ _ ?_
              clear hK'
              go_wp2_with fail
              go_meet
              exact ⟨G, _, _, rfl, box2_set Hbg.out _ _, stable_bod _ _ _ _ _ _ _ (((Keep.setCell (S := (fun b : Nat => wq.heap.size ≤ b ∧ b ≠ G)) (p := ⟨G, 0, none⟩) (fun h => h.2 rfl) _).trans (Keep.setCell (p := ⟨G, 1, none⟩) (fun h => h.2 rfl) _)).trans (Keep.weak (fun b h => Nat.lt_of_lt_of_le hq4 h.1))) H7.out, Up.setCell (Up.setCell Hug.out (p := ⟨G, 0, none⟩) Hqg.out _) (p := ⟨G, 1, none⟩) Hqg.out _⟩
          · go_simp
            have hs : Up w5 (w5.alloc (.cells #[.slice none 0 0, .slice none 0 0] 29)) := (Up.refl w5).alloc _
            have hka : Keep (fun b : Nat => wq.heap.size ≤ b) w5 (fun b : Nat => wq.heap.size ≤ b ∧ b ≠ w5.heap.size) (w5.alloc (.cells #[.slice none 0 0, .slice none 0 0] 29)) := fun k h0 hk => ⟨hs.block k hk, h0, Nat.ne_of_lt hk⟩
            have hbg : (w5.alloc (.cells #[.slice none 0 0, .slice none 0 0] 29)).heap[w5.heap.size]? = some (.cells #[.slice none 0 0, .slice none 0 0] 29 (0, 0)) := blk_new w5 (.cells #[.slice none 0 0, .slice none 0 0] 29) rfl
            have hqg0 : ∀ x, w5.heap.size = x → wq.heap.size ≤ x := fun x e => e ▸ hu.size
            have hu : Up wq (w5.alloc (.cells #[.slice none 0 0, .slice none 0 0] 29)) := hu.trans hs
            refine hK.out _ _ (DD.out _ hu) (fun hHeld => ?_)
            clear hK K hHeld
            obtain ⟨G, hG⟩ : ∃ G, w5.heap.size = G := ⟨_, rfl⟩
            have hqg := hqg0 G hG
            clear hqg0
            rw [hG] at hka hbg
            have hHeld := DD.out _ hu
            have H5 := Lib.hid (stable_bod _ _ _ _ _ _ _ (hka) H5.out)
            obtain ⟨w6, hww6⟩ : ∃ x, w5.alloc (.cells #[.slice none 0 0, .slice none 0 0] 29) = x := ⟨_, rfl⟩
            rw [hww6] at hu hbg hHeld hs hka H5 ⊢
            try rw [hG]
            clear hww6 hka
            try simp only [Act.put, List.setIfInBounds_toArray, List.set_cons_zero, List.set_cons_succ]
            refine wpAnyH_ready (rs := [4]) (by kernel_rfl) (by simp) ?_
            refine AllReadyH.cons rfl (fun K hK => ?_) AllReadyH.nil
            go_simp
            refine (own_b (d + 1) b _ _ _ (HB0.out _ hu)).mono ?_
            rintro e w7 ⟨vv6, vu6, rfl, hd, hs⟩
            have H6 := Lib.hid (stable_bod (d + 1) _ _ (fun b : Nat => wq.heap.size ≤ b ∧ b ≠ G) _ _ _ (Keep.weak (fun b (hb : From _ b) => ⟨Nat.le_trans hu.size hb, fun e => by have h1 : _ ≤ b := hb; have := lt_of_block hbg; omega⟩)) hd)
            have H5 := Lib.hid (stable_bod _ _ _ _ _ _ _ (Keep.upS hs) H5.out)
            have hbg := hs.blk hbg
            have hu := hu.trans hs
            refine hK.out _ _ (DD.out _ hu) (fun hHeld => ?_)
            clear hK K hHeld hd hs
            have hHeld := DD.out _ hu
            try simp only [Act.put, List.setIfInBounds_toArray, List.set_cons_zero, List.set_cons_succ]
            refine wpAnyH_ready (rs := [5]) (by kernel_rfl) (by simp) ?_
            refine AllReadyH.cons rfl (fun K hK => ?_) AllReadyH.nil
            go_simp
            refine (Hj.out (fun b : Nat => wq.heap.size ≤ b ∧ b ≠ G) vv5 vu5 vv6 vu6 w.heap.size _ Hm0.out Hm1.out (Hfa.out _ hu) H5.out H6.out Hka.out Hkb.out Hna.out Hnb.out).mono ?_
            rintro e w8 ⟨vv7, vu7, rfl, hd, hs⟩
            obtain ⟨x1, y1, z1, x2, y2, z2, hxy⟩ := bod_two hd
            simp only [List.cons.injEq, and_true] at hxy
            obtain ⟨rfl, rfl⟩ := hxy
            have H7 := Lib.hid (stable_bod (d + 1) _ _ (fun b : Nat => wq.heap.size ≤ b ∧ b ≠ G) _ _ _ (Keep.weak (fun b hb => by have := lt_of_block hbg; rcases hb with hb | hb; exact hb; exact ⟨Nat.le_trans hu.size hb, by omega⟩)) hd)
            have hbg := hs.blk hbg
            have hu := hu.trans hs
            refine hK.out _ _ (DD.out _ hu) (fun hHeld => ?_)
            clear hK K hHeld hd hs
            have hHeld := DD.out _ hu
            try simp only [Act.put, List.setIfInBounds_toArray, List.set_cons_zero, List.set_cons_succ]
            refine wpAnyH_done (by kernel_rfl) ?_ _
            have q0 : w8.cell? ⟨G, 0, none⟩ = some (.slice none 0 0) := cell_of_row w8 G 0 _ _ _ hbg
            have q1 : w8.cell? ⟨G, 1, none⟩ = some (.slice none 0 0) := cell_of_row w8 G 1 _ _ _ hbg
            have tf : ∀ o, w8.frozen? ⟨G, o, none⟩ = false := fun o => frozen_of_row w8 G o _ _ hbg
            have tz : G < w8.heap.size := lt_of_block hbg
            have Hbg := Lib.hid hbg; have Hug := Lib.hid hu; have Hqg := Lib.hid hqg
            clear hbg hu hHeld DD hqg
            refine AskLast.normal (wpOp_step rfl (fun K' hK' => ?_))
            go_simp
            refine hK' _ _ ?_
            clear hK'
            go_wp2_with fail
            go_meet
            exact ⟨G, _, _, rfl, box2_set Hbg.out _ _, stable_bod _ _ _ _ _ _ _ (((Keep.setCell (S := (fun b : Nat => wq.heap.size ≤ b ∧ b ≠ G)) (p := ⟨G, 0, none⟩) (fun h => h.2 rfl) _).trans (Keep.setCell (p := ⟨G, 1, none⟩) (fun h => h.2 rfl) _)).trans (Keep.weak (fun b h => Nat.lt_of_lt_of_le hq4 h.1))) H7.out, Up.setCell (Up.setCell Hug.out (p := ⟨G, 0, none⟩) Hqg.out _) (p := ⟨G, 1, none⟩) Hqg.out _⟩
        · go_simp
          have hs : Up wq ((wq.alloc (.cells #[.slice none 0 0, .slice none 0 0] 29)).drew) := ((Up.refl wq).alloc _).drew
          have hka : Keep (fun b : Nat => wq.heap.size ≤ b) wq (fun b : Nat => wq.heap.size ≤ b ∧ b ≠ wq.heap.size) ((wq.alloc (.cells #[.slice none 0 0, .slice none 0 0] 29)).drew) := fun k h0 hk => ⟨hs.block k hk, h0, Nat.ne_of_lt hk⟩
          have hbg : ((wq.alloc (.cells #[.slice none 0 0, .slice none 0 0] 29)).drew).heap[wq.heap.size]? = some (.cells #[.slice none 0 0, .slice none 0 0] 29 (0, 0)) := blk_new wq (.cells #[.slice none 0 0, .slice none 0 0] 29) rfl
          have hqg0 : ∀ x, wq.heap.size = x → wq.heap.size ≤ x := fun x e => Nat.le_of_eq e
          have hu : Up wq ((wq.alloc (.cells #[.slice none 0 0, .slice none 0 0] 29)).drew) := hs
          refine hK.out _ _ (DD.out _ hu) (fun hHeld => ?_)
          clear hK K hHeld
          obtain ⟨G, hG⟩ : ∃ G, wq.heap.size = G := ⟨_, rfl⟩
          have hqg := hqg0 G hG
          clear hqg0
          rw [hG] at hka hbg
          have hHeld := DD.out _ hu
          obtain ⟨w5, hww5⟩ : ∃ x, (wq.alloc (.cells #[.slice none 0 0, .slice none 0 0] 29)).drew = x := ⟨_, rfl⟩
          rw [hww5] at hu hbg hHeld hs hka  ⊢
          try rw [hG]
          clear hww5 hka
          try simp only [Act.put, List.setIfInBounds_toArray, List.set_cons_zero, List.set_cons_succ]
          refine wpAnyH_ready (rs := [2]) (by kernel_rfl) (by simp) ?_
          refine AllReadyH.cons rfl (fun K hK => ?_) AllReadyH.nil
          go_simp
          refine (own_b (d + 1) a _ _ _ (HA0.out _ hu)).mono ?_
          rintro e w6 ⟨vv5, vu5, rfl, hd, hs⟩
          have H5 := Lib.hid (stable_bod (d + 1) _ _ (fun b : Nat => wq.heap.size ≤ b ∧ b ≠ G) _ _ _ (Keep.weak (fun b (hb : From _ b) => ⟨Nat.le_trans hu.size hb, fun e => by have h1 : _ ≤ b := hb; have := lt_of_block hbg; omega⟩)) hd)
          have hbg := hs.blk hbg
          have hu := hu.trans hs
          refine hK.out _ _ (DD.out _ hu) (fun hHeld => ?_)
          clear hK K hHeld hd hs
          have hHeld := DD.out _ hu
          try simp only [Act.put, List.setIfInBounds_toArray, List.set_cons_zero, List.set_cons_succ]
          refine wpAnyH_ready (rs := [4]) (by kernel_rfl) (by simp) ?_
          refine AllReadyH.cons rfl (fun K hK => ?_) AllReadyH.nil
          go_simp
          refine (own_b (d + 1) b _ _ _ (HB0.out _ hu)).mono ?_
          rintro e w7 ⟨vv6, vu6, rfl, hd, hs⟩
          have H6 := Lib.hid (stable_bod (d + 1) _ _ (fun b : Nat => wq.heap.size ≤ b ∧ b ≠ G) _ _ _ (Keep.weak (fun b (hb : From _ b) => ⟨Nat.le_trans hu.size hb, fun e => by have h1 : _ ≤ b := hb; have := lt_of_block hbg; omega⟩)) hd)
          have H5 := Lib.hid (stable_bod _ _ _ _ _ _ _ (Keep.upS hs) H5.out)
          have hbg := hs.blk hbg
          have hu := hu.trans hs
          refine hK.out _ _ (DD.out _ hu) (fun hHeld => ?_)
          clear hK K hHeld hd hs
          have hHeld := DD.out _ hu
          try simp only [Act.put, List.setIfInBounds_toArray, List.set_cons_zero, List.set_cons_succ]
          refine wpAnyH_ready (rs := [5]) (by kernel_rfl) (by simp) ?_
          refine AllReadyH.cons rfl (fun K hK => ?_) AllReadyH.nil
          go_simp
          refine (Hj.out (fun b : Nat => wq.heap.size ≤ b ∧ b ≠ G) vv5 vu5 vv6 vu6 w.heap.size _ Hm0.out Hm1.out (Hfa.out _ hu) H5.out H6.out Hka.out Hkb.out Hna.out Hnb.out).mono ?_
          rintro e w8 ⟨vv7, vu7, rfl, hd, hs⟩
          obtain ⟨x1, y1, z1, x2, y2, z2, hxy⟩ := bod_two hd
          simp only [List.cons.injEq, and_true] at hxy
          obtain ⟨rfl, rfl⟩ := hxy
          have H7 := Lib.hid (stable_bod (d + 1) _ _ (fun b : Nat => wq.heap.size ≤ b ∧ b ≠ G) _ _ _ (Keep.weak (fun b hb => by have := lt_of_block hbg; rcases hb with hb | hb; exact hb; exact ⟨Nat.le_trans hu.size hb, by omega⟩)) hd)
          have hbg := hs.blk hbg
          have hu := hu.trans hs
          refine hK.out _ _ (DD.out _ hu) (fun hHeld => ?_)
          clear hK K hHeld hd hs
          have hHeld := DD.out _ hu
          try simp only [Act.put, List.setIfInBounds_toArray, List.set_cons_zero, List.set_cons_succ]
          refine wpAnyH_done (by kernel_rfl) ?_ _
          have q0 : w8.cell? ⟨G, 0, none⟩ = some (.slice none 0 0) := cell_of_row w8 G 0 _ _ _ hbg
          have q1 : w8.cell? ⟨G, 1, none⟩ = some (.slice none 0 0) := cell_of_row w8 G 1 _ _ _ hbg
          have tf : ∀ o, w8.frozen? ⟨G, o, none⟩ = false := fun o => frozen_of_row w8 G o _ _ hbg
          have tz : G < w8.heap.size := lt_of_block hbg
          have Hbg := Lib.hid hbg; have Hug := Lib.hid hu; have Hqg := Lib.hid hqg
          clear hbg hu hHeld DD hqg
          refine AskLast.normal (wpOp_step rfl (fun K' hK' => ?_))
          go_simp
          refine hK' _ _ ?_
          clear hK'
          go_wp2_with fail
          go_meet
          exact ⟨G, _, _, rfl, box2_set Hbg.out _ _, stable_bod _ _ _ _ _ _ _ (((Keep.setCell (S := (fun b : Nat => wq.heap.size ≤ b ∧ b ≠ G)) (p := ⟨G, 0, none⟩) (fun h => h.2 rfl) _).trans (Keep.setCell (p := ⟨G, 1, none⟩) (fun h => h.2 rfl) _)).trans (Keep.weak (fun b h => Nat.lt_of_lt_of_le hq4 h.1))) H7.out, Up.setCell (Up.setCell Hug.out (p := ⟨G, 0, none⟩) Hqg.out _) (p := ⟨G, 1, none⟩) Hqg.out _⟩
      case rest =>
      obtain ⟨G, vv, vu, rfl, hbg, hdj, huc⟩ := hcut
      obtain ⟨x1, y1, z1, x2, y2, z2, hxy⟩ := bod_two hdj
      simp only [List.cons.injEq, and_true] at hxy
      obtain ⟨rfl, rfl⟩ := hxy
      have hu2c := Hu.out.trans huc
      have hu0c := Hu2.out.trans hu2c
      have f0 : wc.cell? ⟨w.heap.size, 0, none⟩ = some (.slice ma f.msgs.length mc) := cell_of_row wc _ 0 _ _ _ (hu2c.blk Hb0.out)
      have f1 : wc.cell? ⟨w.heap.size, 1, none⟩ = some (.slice ea f.enums.length ec) := cell_of_row wc _ 1 _ _ _ (hu2c.blk Hb0.out)
      have g0 : wc.cell? ⟨G, 0, none⟩ = some (.slice x1 y1 z1) := cell_of_row wc _ 0 _ _ _ hbg
      have g1 : wc.cell? ⟨G, 1, none⟩ = some (.slice x2 y2 z2) := cell_of_row wc _ 1 _ _ _ hbg
      have Hbg := Lib.hid hbg; have Hdj := Lib.hid hdj; have Hu2c := Lib.hid hu2c; have Hu0c := Lib.hid hu0c
      clear hbg hdj huc hu2c hu0c a0 a1' b0 b1' DD
      go_wp2_with fail
      refine (wrong_bod (d + 1) _ _ _ f msg (joinB f 12 msg a b) _ (Hf.out.up Hu0c.out) (bod_all Hdj.out) (HT.out.up Hu0c.out)).mono ?_
      rintro e w8 ⟨rfl, hu8⟩
      have hu28 := Hu2c.out.trans hu8
      obtain ⟨r0, r1, rf', rz8⟩ := Hret.out w8 hu28
      have k0 := hu8.cell_some g0; have k1 := hu8.cell_some g1
      have Hu28 := Lib.hid hu28
      have Hdj8 := Lib.hid (stable_bod _ _ _ _ _ _ _ (Keep.upS hu8) Hdj.out)
      have hlt8 : w.heap.size + 1 + 1 + 1 < w8.heap.size := rz8
      clear hu8 hu28 f0 f1 g0 g1
      by_cases hw0 : wrongA f msg (joinB f 12 msg a b) = 0
      · have hA := HA2.out
        rw [if_neg (by simpa using hw0)] at hA
        have Hans := Lib.hid hA
        clear hA HA2
        rw [hw0]
        clear hw0
        have HR : ANS.2 = 0 := by rw [← Hans.out]
        have HR1 := Lib.hid (show ANS.1 = joinB f 12 msg a b by rw [← Hans.out])
        go_wp2_with fail
        refine bodyPost_ret (v := .tuple #[.agg #[.slice x1 y1 z1, .slice x2 y2 z2], .int .i64 0]) (by simp [results, Tryz.results34, go_sem, r0, r1]) rfl ?_
        refine ⟨.slice x1 y1 z1, .slice x2 y2 z2, by rw [HR], ?_, Up.setCell (Up.setCell (Hu2.out.trans Hu28.out) (p := ⟨w.heap.size + 1 + 1 + 1, 0, none⟩) (show w.heap.size ≤ w.heap.size + 1 + 1 + 1 by omega) _) (p := ⟨w.heap.size + 1 + 1 + 1, 1, none⟩) (show w.heap.size ≤ w.heap.size + 1 + 1 + 1 by omega) _⟩
        rw [HR1.out]
        exact stable_bod _ _ _ _ _ _ _ (((Keep.setCell (p := ⟨w.heap.size + 1 + 1 + 1, 0, none⟩) (fun h => by have h1 : w.heap.size + 4 < w.heap.size + 1 + 1 + 1 := h; omega) _).trans (Keep.setCell (p := ⟨w.heap.size + 1 + 1 + 1, 1, none⟩) (fun h => by have h1 : w.heap.size + 4 < w.heap.size + 1 + 1 + 1 := h; omega) _)).trans (Keep.weak (fun b h => by have h1 : w.heap.size + 4 < b := h; show w.heap.size ≤ b; omega))) Hdj8.out
      · have hA := HA2.out
        rw [if_pos hw0] at hA
        subst hA
        clear HA2
        generalize hE : wrongA f msg (joinB f 12 msg a b) = E at *
        go_wp2_with fail
        refine bodyPost_ret (v := .tuple #[.agg #[.slice none 0 0, .slice none 0 0], .int .i64 E]) (by simp [results, Tryz.results34, go_sem, r0, r1]) rfl ?_
        exact ⟨_, _, rfl, HZ.out _, Up.setCell (Up.setCell (Hu2.out.trans Hu28.out) (p := ⟨w.heap.size + 1 + 1 + 1, 0, none⟩) (show w.heap.size ≤ w.heap.size + 1 + 1 + 1 by omega) _) (p := ⟨w.heap.size + 1 + 1 + 1, 1, none⟩) (show w.heap.size ≤ w.heap.size + 1 + 1 + 1 by omega) _⟩
end Go.Proofs.YtbceapeoknngnaaGreatDoor
