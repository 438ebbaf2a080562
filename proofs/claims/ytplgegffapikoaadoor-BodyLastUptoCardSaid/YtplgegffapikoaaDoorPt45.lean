/-
  pressref2.WrongAll.
  pressref3.Join.
-/
import Derived.Test.YtplgegffapikoaaDoorPt41
import Derived.Test.YtplgegffapikoaaDoorPt44
import Derived.Test.YtplgegffapikoaaDoorPt33
import Derived.Test.YtplgegffapikoaaDoorPt39
set_option linter.unusedVariables false
namespace Go.Proofs.YtplgegffapikoaaDoor
open Go.RowKit
set_option maxRecDepth 100000 in
set_option maxHeartbeats 3200000 in
theorem wrong_all (d : Nat) (v vv vu : Value) (f : Fil) (msg : Int) (x : Bod) (w : World) (hf : FilV All w v f) (hb : DBodF d All w x [vv, vu]) (hsz : f.msgs.length + f.enums.length ≤ 9223372036854775807) :
    Calls Tryd.prog 9 #[v, .int .i64 msg, .agg #[vv, vu]] w fun e w' => e = .returned (.int .i64 (wrongA f msg x)) ∧ Up w w' := by
  obtain ⟨vm, ve, rfl, hm, he⟩ := id hf
  obtain ⟨ma, mc, rfl, _, _⟩ := hm.val
  obtain ⟨ea, ec, rfl, _, _⟩ := he.val
  obtain ⟨a1, n1, c1, a2, n2, c2, hbt⟩ := bod_two hb
  simp only [List.cons.injEq, and_true] at hbt
  obtain ⟨rfl, rfl⟩ := hbt
  have Hf := Lib.hid hf; have Hb := Lib.hid hb; have Hsz := Lib.hid hsz
  clear hf hb hsz hm he
  obtain ⟨ANS, hANS⟩ : ∃ ANS, wrongA f msg x = ANS := ⟨_, rfl⟩
  rw [hANS]
  unfold wrongA at hANS
  have HA := Lib.hid hANS
  clear hANS
  go_enter Tryd.func9, Tryd.ntmps9
  go_wp2_with fail
  have hb0 : ((w.alloc (.cells #[.slice ma f.msgs.length mc, .slice ea f.enums.length ec] 25)).alloc (.cells #[.slice a1 n1 c1, .slice a2 n2 c2] 29)).heap[w.heap.size]? = some (.cells #[.slice ma f.msgs.length mc, .slice ea f.enums.length ec] 25 (0, 0)) := blk_old _ (blk_new w _ rfl)
  have hb1 : ((w.alloc (.cells #[.slice ma f.msgs.length mc, .slice ea f.enums.length ec] 25)).alloc (.cells #[.slice a1 n1 c1, .slice a2 n2 c2] 29)).heap[w.heap.size + 1]? = some (.cells #[.slice a1 n1 c1, .slice a2 n2 c2] 29 (0, 0)) := blk_new (w.alloc _) _ (by simp)
  have hu0 : Up w ((w.alloc (.cells #[.slice ma f.msgs.length mc, .slice ea f.enums.length ec] 25)).alloc (.cells #[.slice a1 n1 c1, .slice a2 n2 c2] 29)) := ((Up.refl w).alloc _).alloc _
  generalize hw1 : (w.alloc (.cells #[.slice ma f.msgs.length mc, .slice ea f.enums.length ec] 25)).alloc (.cells #[.slice a1 n1 c1, .slice a2 n2 c2] 29) = w1 at *
  clear hw1
  refine (wrong_r _ f w1 (Hf.out.up hu0) Hsz.out).mono ?_
  rintro e w2 ⟨rfl, hu2⟩
  have Hu02 := Lib.hid (hu0.trans hu2)
  have Hb0 := Lib.hid (hu2.blk hb0); have Hb1 := Lib.hid (hu2.blk hb1)
  clear hb0 hb1 hu0 hu2
  have hz := lt_of_block Hb1.out
  have hANS := HA.out
  clear HA
  have r0 : w.heap.size < w2.heap.size := by omega
  have r1 : w.heap.size + 1 < w2.heap.size := by omega
  have f0 : w2.cell? ⟨w.heap.size, 0, none⟩ = some (.slice ma f.msgs.length mc) := cell_of_row w2 _ 0 _ _ _ Hb0.out
  have f1 : w2.cell? ⟨w.heap.size, 1, none⟩ = some (.slice ea f.enums.length ec) := cell_of_row w2 _ 1 _ _ _ Hb0.out
  have g0 : w2.cell? ⟨w.heap.size + 1, 0, none⟩ = some (.slice a1 n1 c1) := cell_of_row w2 _ 0 _ _ _ Hb1.out
  have g1 : w2.cell? ⟨w.heap.size + 1, 1, none⟩ = some (.slice a2 n2 c2) := cell_of_row w2 _ 1 _ _ _ Hb1.out
  by_cases hw : (wrongN f).1 = 0
  · have Hw := Lib.hid hw
    rw [if_neg (by simpa using hw)] at hANS
    rw [hw]
    by_cases hm : msg < 0 ∨ (f.msgs.length : Int) ≤ msg
    · rw [if_pos hm] at hANS
      rcases (show msg < 0 ∨ (¬ msg < 0 ∧ (f.msgs.length : Int) ≤ msg) by omega) with h | ⟨h, h2⟩
      · clear hm g0 g1 f1
        generalize (wrongN f).2 = at2 at *
        go_wp2_with fail
        go_ret
        exact ⟨ret_int hANS, Hu02.out.alloc _⟩
      · clear hm g0 g1 f1
        generalize (wrongN f).2 = at2 at *
        go_wp2_with fail
        go_ret
        exact ⟨ret_int hANS, Hu02.out.alloc _⟩
    · rw [if_neg hm] at hANS
      have h1 : ¬ msg < 0 := by omega
      have h2 : ¬ (f.msgs.length : Int) ≤ msg := by omega
      have Hm := Lib.hid hm
      have Hans := Lib.hid hANS
      clear hm hw hANS
      generalize (wrongN f).2 = at2 at *
      go_wp2_with fail
      have hu03 := Hu02.out.alloc (.cells #[.int .i64 0, .int .i64 (at2 : Int)] 63)
      have hbc := bodyr_c f Hw.out 12 (by omega) d (.agg #[.slice ma f.msgs.length mc, .slice ea f.enums.length ec]) (.slice a1 n1 c1) (.slice a2 n2 c2) msg x _ (by have := Hm.out; omega) (by have := Hm.out; omega) (Hf.out.up hu03) (stable_bod d _ _ _ _ _ _ (Keep.upS hu03) Hb.out)
      refine (show Calls Tryd.prog 27 #[.agg #[.slice ma f.msgs.length mc, .slice ea f.enums.length ec], .int .i64 msg, .agg #[.slice a1 n1 c1, .slice a2 n2 c2], .int .i64 1] _ _ from hbc).mono ?_
      rintro e w4 ⟨rfl, hu4⟩
      rw [Hans.out]
      go_wp2_with fail
      go_ret
      exact ⟨rfl, hu03.trans hu4⟩
  · rw [if_pos hw] at hANS
    generalize (wrongN f).1 = e1 at *
    generalize (wrongN f).2 = at2 at *
    clear f0 f1 g0 g1
    go_wp2_with fail
    go_ret
    exact ⟨ret_int (by first | rfl | exact hANS), Hu02.out.alloc _⟩
end Go.Proofs.YtplgegffapikoaaDoor
set_option linter.unusedVariables false
namespace Go.Proofs.YtplgegffapikoaaDoor
open Go.RowKit
set_option maxRecDepth 100000 in
set_option maxHeartbeats 6400000 in
theorem join_ref (N d : Nat) (hN : N * 2 * 48 ≤ 140737488355328) (f : Fil) (fv va ua vb ub : Value) (msg : Int) (a b : Bod) (w : World) (hf : FilV All w fv f) (hda : DBodF d All w a [va, ua]) (hdb : DBodF d All w b [vb, ub]) (hna : UnkLe N 12 a) (hnb : UnkLe N 12 b) (hsz : f.msgs.length + f.enums.length ≤ 9223372036854775807) :
    Calls Tryd.prog 13 #[fv, .int .i64 msg, .agg #[va, ua], .agg #[vb, ub]] w fun e w' => ∃ vv vu, e = .returned (.tuple #[.agg #[vv, vu], .int .i64 (joinA f msg a b).2]) ∧ DBodF d All w' (joinA f msg a b).1 [vv, vu] ∧ Up w w' := by
  obtain ⟨vm, ve, rfl, hm', he''⟩ := id hf
  obtain ⟨ma, mc, rfl, _, _⟩ := hm'.val
  obtain ⟨ea, ec, rfl, _, _⟩ := he''.val
  cases d with
  | zero => exact hda.elim
  | succ d =>
  obtain ⟨a1, l1, c1, a2, l2, c2, hab⟩ := bod_two hda
  obtain ⟨b1, m1, e1, b2, m2, e2, hbb⟩ := bod_two hdb
  simp only [List.cons.injEq, and_true] at hab hbb
  obtain ⟨rfl, rfl⟩ := hab
  obtain ⟨rfl, rfl⟩ := hbb
  have Hf := Lib.hid hf; have Hda := Lib.hid hda; have Hdb := Lib.hid hdb; have Hna := Lib.hid hna; have Hnb := Lib.hid hnb; have Hsz := Lib.hid hsz
  clear hf hda hdb hna hnb hsz hm' he''
  obtain ⟨ANS, hANS⟩ : ∃ ANS, joinA f msg a b = ANS := ⟨_, rfl⟩
  rw [hANS]
  unfold joinA at hANS
  have HA := Lib.hid hANS
  clear hANS
  have HZ := Lib.hid (fun (w' : World) => bod0_at d All w')
  go_enter Tryd.func13, Tryd.ntmps13
  go_upto_region 1 with (fail)
  generalize hW : (((w.alloc (.cells #[.slice ma f.msgs.length mc, .slice ea f.enums.length ec] 25)).alloc (.cells #[.slice a1 l1 c1, .slice a2 l2 c2] 29)).alloc (.cells #[.slice b1 m1 e1, .slice b2 m2 e2] 29)).alloc (.cells #[.slice none 0 0, .slice none 0 0] 29) = w1
  have hb0 : w1.heap[w.heap.size]? = some (.cells #[.slice ma f.msgs.length mc, .slice ea f.enums.length ec] 25 (0, 0)) := by rw [← hW]; exact blk_old _ (blk_old _ (blk_old _ (blk_new w _ rfl)))
  have hb1 : w1.heap[w.heap.size + 1]? = some (.cells #[.slice a1 l1 c1, .slice a2 l2 c2] 29 (0, 0)) := by rw [← hW]; exact blk_old _ (blk_old _ (blk_new (w.alloc _) _ (by simp)))
  have hb2 : w1.heap[w.heap.size + 2]? = some (.cells #[.slice b1 m1 e1, .slice b2 m2 e2] 29 (0, 0)) := by rw [← hW]; exact blk_old _ (blk_new ((w.alloc _).alloc _) _ (by simp))
  have hb3 : w1.heap[w.heap.size + 3]? = some (.cells #[.slice none 0 0, .slice none 0 0] 29 (0, 0)) := by rw [← hW]; exact blk_new (((w.alloc _).alloc _).alloc _) _ (by simp)
  have hu1 : Up w w1 := by rw [← hW]; exact ((((Up.refl w).alloc _).alloc _).alloc _).alloc _
  clear hW
  have HC := Lib.hid (fun (W : World) (u : Up w1 W) => (⟨cell_of_row W _ 0 _ _ _ (u.blk hb0), cell_of_row W _ 1 _ _ _ (u.blk hb0), cell_of_row W _ 0 _ _ _ (u.blk hb1), cell_of_row W _ 1 _ _ _ (u.blk hb1), cell_of_row W _ 0 _ _ _ (u.blk hb2), cell_of_row W _ 1 _ _ _ (u.blk hb2)⟩ :
    W.cell? ⟨w.heap.size, 0, none⟩ = some (.slice ma f.msgs.length mc) ∧ W.cell? ⟨w.heap.size, 1, none⟩ = some (.slice ea f.enums.length ec) ∧ W.cell? ⟨w.heap.size + 1, 0, none⟩ = some (.slice a1 l1 c1) ∧ W.cell? ⟨w.heap.size + 1, 1, none⟩ = some (.slice a2 l2 c2) ∧ W.cell? ⟨w.heap.size + 1 + 1, 0, none⟩ = some (.slice b1 m1 e1) ∧ W.cell? ⟨w.heap.size + 1 + 1, 1, none⟩ = some (.slice b2 m2 e2)))
  have Hret := Lib.hid (fun (W : World) (u : Up w1 W) => (⟨cell_of_row W _ 0 _ _ _ (u.blk hb3), cell_of_row W _ 1 _ _ _ (u.blk hb3), fun o => frozen_of_row W _ o _ _ (u.blk hb3), lt_of_block (u.blk hb3)⟩ : W.cell? ⟨w.heap.size + 1 + 1 + 1, 0, none⟩ = some (.slice none 0 0) ∧ W.cell? ⟨w.heap.size + 1 + 1 + 1, 1, none⟩ = some (.slice none 0 0) ∧ (∀ o, W.frozen? ⟨w.heap.size + 1 + 1 + 1, o, none⟩ = false) ∧ w.heap.size + 1 + 1 + 1 < W.heap.size))
  have Hu1 := Lib.hid hu1
  obtain ⟨f0, f1, g0, g1, k0, k1⟩ := HC.out w1 (Up.refl w1)
  clear hb0 hb1 hb2 hb3 hu1
  have HB := Lib.hid (fun (W : World) (u : Up w1 W) (z : Value) (z' : Value) => Up.setCell (Up.setCell (Hu1.out.trans u) (p := ⟨w.heap.size + 1 + 1 + 1, 0, none⟩) (show w.heap.size ≤ w.heap.size + 1 + 1 + 1 by omega) z) (p := ⟨w.heap.size + 1 + 1 + 1, 1, none⟩) (show w.heap.size ≤ w.heap.size + 1 + 1 + 1 by omega) z')
  go_wp2_with fail
  refine (wrong_all (d + 1) _ _ _ f msg a _ (Hf.out.up Hu1.out) (stable_bod _ _ _ _ _ _ _ (Keep.upS Hu1.out) Hda.out) Hsz.out).mono ?_
  rintro e w2 ⟨rfl, hu2⟩
  obtain ⟨r0, r1, rf', rz⟩ := Hret.out w2 hu2
  clear f0 f1 g0 g1 k0 k1
  obtain ⟨f0, f1, g0, g1, k0, k1⟩ := HC.out w2 hu2
  have Hu2 := Lib.hid hu2
  clear hu2
  by_cases hwa : wrongA f msg a = 0
  case neg =>
    have hA := HA.out
    rw [if_pos hwa] at hA
    subst hA
    clear HA f0 f1 g0 g1 k0 k1
    generalize hE : wrongA f msg a = E at *
    go_wp2_with fail
    refine bodyPost_ret (v := .tuple #[.agg #[.slice none 0 0, .slice none 0 0], .int .i64 E]) (by simp [results, Tryd.results13, go_sem, r0, r1]) rfl ?_
    exact ⟨_, _, rfl, HZ.out _, HB.out _ Hu2.out _ _⟩
  have hA := HA.out
  rw [if_neg (by simpa using hwa)] at hA
  have HA1 := Lib.hid hA
  have Hwa := Lib.hid hwa
  rw [hwa]
  clear HA hA hwa r0 r1 rf' rz
  go_wp2_with fail
  refine (wrong_all (d + 1) _ _ _ f msg b _ (Hf.out.up (Hu1.out.trans Hu2.out)) (stable_bod _ _ _ _ _ _ _ (Keep.upS (Hu1.out.trans Hu2.out)) Hdb.out) Hsz.out).mono ?_
  rintro e w3 ⟨rfl, hu3'⟩
  have hu3 := Hu2.out.trans hu3'
  obtain ⟨r0, r1, rf', rz⟩ := Hret.out w3 hu3
  clear f0 f1 g0 g1 k0 k1
  obtain ⟨f0, f1, g0, g1, k0, k1⟩ := HC.out w3 hu3
  have Hu3 := Lib.hid hu3
  clear hu3 hu3'
  by_cases hwb : wrongA f msg b = 0
  case neg =>
    have hA := HA1.out
    rw [if_pos hwb] at hA
    subst hA
    clear HA1 f0 f1 g0 g1 k0 k1
    generalize hE : wrongA f msg b = E at *
    go_wp2_with fail
    refine bodyPost_ret (v := .tuple #[.agg #[.slice none 0 0, .slice none 0 0], .int .i64 E]) (by simp [results, Tryd.results13, go_sem, r0, r1]) rfl ?_
    exact ⟨_, _, rfl, HZ.out _, HB.out _ Hu3.out _ _⟩
  have hA := HA1.out
  rw [if_neg (by simpa using hwb)] at hA
  have HA2 := Lib.hid hA
  obtain ⟨hright, hm0, hm1, hka⟩ := wrongA_zero Hwa.out
  obtain ⟨_, _, _, hkb⟩ := wrongA_zero hwb
  have Hpl := Lib.hid (plus_c N hN f hright 12 (d + 1) (fun b => b < w.heap.size) msg a b)
  have Hcal := Lib.hid (Hpl.out (.agg #[.slice ma f.msgs.length mc, .slice ea f.enums.length ec]) (.slice a1 l1 c1) (.slice a2 l2 c2) (.slice b1 m1 e1) (.slice b2 m2 e2) w3 hm0 hm1 (Hf.out.up (Hu1.out.trans Hu3.out)) (stable_bod _ _ _ _ _ _ _ ((show Keep All w (fun b => b < w.heap.size) w from fun b _ hb => ⟨rfl, hb⟩).trans (Keep.upS (Hu1.out.trans Hu3.out))) Hda.out) (stable_bod _ _ _ _ _ _ _ ((show Keep All w (fun b => b < w.heap.size) w from fun b _ hb => ⟨rfl, hb⟩).trans (Keep.upS (Hu1.out.trans Hu3.out))) Hdb.out) hka hkb Hna.out Hnb.out)
  rw [hwb]
  clear HA1 hA hwb r0 r1 rf' rz hright hm0 hm1 hka hkb Hpl Hwa
  go_wp2_with fail
  refine Hcal.out.mono ?_
  rintro e w4 ⟨vv, vu, rfl, hdj, hu4'⟩
  obtain ⟨x1, y1, z1, x2, y2, z2, hxy⟩ := bod_two hdj
  simp only [List.cons.injEq, and_true] at hxy
  obtain ⟨rfl, rfl⟩ := hxy
  have hu4 := Hu3.out.trans hu4'
  have hz3 : w.heap.size + 1 + 1 + 1 < w3.heap.size := (Hret.out w3 Hu3.out).2.2.2
  clear f0 f1 g0 g1 k0 k1
  have Hdj := Lib.hid (stable_bod _ _ _ (fun b => b ≠ w.heap.size + 1 + 1 + 1) _ _ _ (Keep.weak (fun b hb e => by rcases hb with hb | hb <;> omega)) hdj)
  have Hu4 := Lib.hid hu4
  clear hdj hu4 hu4' Hcal
  go_upto_region 8 with (fail)
  have hbg := blk_new w4 (.cells #[.slice x1 y1 z1, .slice x2 y2 z2] 29) (g := w4.heap.size) rfl
  have hug := Hu4.out.trans ((Up.refl w4).alloc (.cells #[.slice x1 y1 z1, .slice x2 y2 z2] 29))
  have Hdg := Lib.hid (stable_bod _ _ _ _ _ _ _ (Keep.upS ((Up.refl w4).alloc (.cells #[.slice x1 y1 z1, .slice x2 y2 z2] 29))) Hdj.out)
  obtain ⟨G, hG⟩ : ∃ G, w4.heap.size = G := ⟨_, rfl⟩
  rw [hG] at hbg ⊢
  generalize w4.alloc (.cells #[.slice x1 y1 z1, .slice x2 y2 z2] 29) = w5 at *
  obtain ⟨f0, f1, _, _, _, _⟩ := HC.out w5 hug
  have g0 : w5.cell? ⟨G, 0, none⟩ = some (.slice x1 y1 z1) := cell_of_row w5 _ 0 _ _ _ hbg
  have g1 : w5.cell? ⟨G, 1, none⟩ = some (.slice x2 y2 z2) := cell_of_row w5 _ 1 _ _ _ hbg
  have Hug := Lib.hid hug
  clear hug hbg
  go_wp2_with fail
  refine (wrong_all (d + 1) _ _ _ f msg (joinB f 12 msg a b) _ (Hf.out.up (Hu1.out.trans Hug.out)) (bod_all Hdg.out) Hsz.out).mono ?_
  rintro e w6 ⟨rfl, hu6'⟩
  have hu6 := Hug.out.trans hu6'
  obtain ⟨r0, r1, rf', rz⟩ := Hret.out w6 hu6
  have g0 := hu6'.cell_some g0; have g1 := hu6'.cell_some g1
  have Hd6 := Lib.hid (stable_bod _ _ _ _ _ _ _ (Keep.upS hu6') Hdg.out)
  have Hu6 := Lib.hid hu6
  clear hu6 hu6' f0 f1
  by_cases hw0 : wrongA f msg (joinB f 12 msg a b) = 0
  · have hA := HA2.out
    rw [if_neg (by simpa using hw0)] at hA
    have Hans := Lib.hid hA
    clear hA HA2
    rw [hw0]
    clear hw0
    have HR : ANS.2 = 0 := by rw [← Hans.out]
    have HR1 := Lib.hid (show ANS.1 = joinB f 12 msg a b by rw [← Hans.out])
    go_wp2_with fail
    refine bodyPost_ret (v := .tuple #[.agg #[.slice x1 y1 z1, .slice x2 y2 z2], .int .i64 0]) (by simp [results, Tryd.results13, go_sem, r0, r1]) rfl ?_
    refine ⟨.slice x1 y1 z1, .slice x2 y2 z2, by rw [HR], ?_, HB.out _ Hu6.out _ _⟩
    rw [HR1.out]
    exact stable_bod _ _ _ _ _ _ _ (((Keep.setCell (S := fun b => b ≠ w.heap.size + 1 + 1 + 1) (p := ⟨w.heap.size + 1 + 1 + 1, 0, none⟩) (fun h => h rfl) _).trans (Keep.setCell (p := ⟨w.heap.size + 1 + 1 + 1, 1, none⟩) (fun h => h rfl) _)).trans Keep.all) Hd6.out
  · have hA := HA2.out
    rw [if_pos hw0] at hA
    subst hA
    clear HA2 g0 g1
    generalize hE : wrongA f msg (joinB f 12 msg a b) = E at *
    go_wp2_with fail
    refine bodyPost_ret (v := .tuple #[.agg #[.slice none 0 0, .slice none 0 0], .int .i64 E]) (by simp [results, Tryd.results13, go_sem, r0, r1]) rfl ?_
    exact ⟨_, _, rfl, HZ.out _, HB.out _ Hu6.out _ _⟩
end Go.Proofs.YtplgegffapikoaaDoor
