/-
  The law BodyThree (written by gen_lawthree.py).
-/
import Derived.Test.YtplgegffapikoaaDoorThreePlain
import Derived.Test.YtplgegffapikoaaDoorMixed
import Derived.Test.YtplgegffapikoaaDoorAlive2
import Derived.Test.YtplgegffapikoaaDoorPt05
set_option linter.unusedVariables false
namespace Go.Proofs.YtplgegffapikoaaDoor
open Go.RowKit
set_option maxRecDepth 100000 in
set_option maxHeartbeats 12800000 in
theorem bodyThree_any (N d : Nat) (hN : 2 * N * 2 * 48 ≤ 140737488355328) (fv va ua vb ub vc uc : Value) (f : Fil) (msg : Int) (a b c : Bod) (w : World) (hf : FilV All w fv f) (hda : DBodF (d + 1) All w a [va, ua]) (hdb : DBodF (d + 1) All w b [vb, ub]) (hdc : DBodF (d + 1) All w c [vc, uc])
    (hT : Tabs w) (hna : UnkLe N 12 a) (hnb : UnkLe N 12 b) (hnc : UnkLe N 12 c) :
    Calls Tryd.prog 4 #[fv, .int .i64 msg, .agg #[va, ua], .agg #[vb, ub], .agg #[vc, uc]] w fun e w' => e = .returned (.bool true) ∧ Up w w' := by
  obtain ⟨vm, ve, rfl, hm', he''⟩ := id hf
  obtain ⟨ma, mc, rfl, _, _⟩ := hm'.val
  obtain ⟨ea, ec, rfl, _, _⟩ := he''.val
  obtain ⟨av, al, ac, au, am, an, e1⟩ := bod_two hda
  obtain ⟨bv, bl, bc, bu, bm, bn, e2⟩ := bod_two hdb
  obtain ⟨cv, cl, cc, cu, cm, cn, e3⟩ := bod_two hdc
  simp only [List.cons.injEq, and_true] at e1 e2 e3
  obtain ⟨rfl, rfl⟩ := e1
  obtain ⟨rfl, rfl⟩ := e2
  obtain ⟨rfl, rfl⟩ := e3
  have hlN : N ≤ 2 * N := by omega
  have Hf := Lib.hid hf; have Hda := Lib.hid hda; have Hdb := Lib.hid hdb; have Hdc := Lib.hid hdc; have HT := Lib.hid hT; have Hna := Lib.hid (hna.mono hlN); have Hnb := Lib.hid (hnb.mono hlN); have Hnc := Lib.hid (hnc.mono hlN)
  have Hua := Lib.hid hna; have Hub := Lib.hid hnb; have Huc := Lib.hid hnc
  have HN := Lib.hid hN
  clear hf hda hdb hdc hT hna hnb hnc hm' he'' hlN hN
  go_enter Tryd.func4, Tryd.ntmps4
  go_upto_region 1 with (fail)
  generalize hW : (((w.alloc (.cells #[.slice ma f.msgs.length mc, .slice ea f.enums.length ec] 25)).alloc (.cells #[.slice av al ac, .slice au am an] 29)).alloc (.cells #[.slice bv bl bc, .slice bu bm bn] 29)).alloc (.cells #[.slice cv cl cc, .slice cu cm cn] 29) = w1
  have hb0 : w1.heap[w.heap.size]? = some (.cells #[.slice ma f.msgs.length mc, .slice ea f.enums.length ec] 25 (0, 0)) := by rw [← hW]; exact blk_old _ (blk_old _ (blk_old _ (blk_new w _ rfl)))
  have hb1 : w1.heap[w.heap.size + 1]? = some (.cells #[.slice av al ac, .slice au am an] 29 (0, 0)) := by rw [← hW]; exact blk_old _ (blk_old _ (blk_new (w.alloc _) _ (by simp)))
  have hb2 : w1.heap[w.heap.size + 2]? = some (.cells #[.slice bv bl bc, .slice bu bm bn] 29 (0, 0)) := by rw [← hW]; exact blk_old _ (blk_new ((w.alloc _).alloc _) _ (by simp))
  have hb3 : w1.heap[w.heap.size + 3]? = some (.cells #[.slice cv cl cc, .slice cu cm cn] 29 (0, 0)) := by rw [← hW]; exact blk_new (((w.alloc _).alloc _).alloc _) _ (by simp)
  have hu1 : Up w w1 := by rw [← hW]; exact ((((Up.refl w).alloc _).alloc _).alloc _).alloc _
  clear hW
  have HC := Lib.hid (fun (W : World) (u : Up w1 W) => (⟨cell_of_row W _ 0 _ _ _ (u.blk hb0), cell_of_row W _ 1 _ _ _ (u.blk hb0), cell_of_row W _ 0 _ _ _ (u.blk hb1), cell_of_row W _ 1 _ _ _ (u.blk hb1), cell_of_row W _ 0 _ _ _ (u.blk hb2), cell_of_row W _ 1 _ _ _ (u.blk hb2), cell_of_row W _ 0 _ _ _ (u.blk hb3), cell_of_row W _ 1 _ _ _ (u.blk hb3)⟩ :
    W.cell? ⟨w.heap.size, 0, none⟩ = some (.slice ma f.msgs.length mc) ∧ W.cell? ⟨w.heap.size, 1, none⟩ = some (.slice ea f.enums.length ec) ∧ W.cell? ⟨w.heap.size + 1, 0, none⟩ = some (.slice av al ac) ∧ W.cell? ⟨w.heap.size + 1, 1, none⟩ = some (.slice au am an) ∧ W.cell? ⟨w.heap.size + 1 + 1, 0, none⟩ = some (.slice bv bl bc) ∧ W.cell? ⟨w.heap.size + 1 + 1, 1, none⟩ = some (.slice bu bm bn) ∧ W.cell? ⟨w.heap.size + 1 + 1 + 1, 0, none⟩ = some (.slice cv cl cc) ∧ W.cell? ⟨w.heap.size + 1 + 1 + 1, 1, none⟩ = some (.slice cu cm cn)))
  have Hu1 := Lib.hid hu1
  have HF := Lib.hid (fun W (u : Up w1 W) => Hf.out.up (Hu1.out.trans u))
  have HA := Lib.hid (fun W (u : Up w1 W) => stable_bod _ _ _ _ _ _ _ (Keep.upS (Hu1.out.trans u)) Hda.out)
  have HB := Lib.hid (fun W (u : Up w1 W) => stable_bod _ _ _ _ _ _ _ (Keep.upS (Hu1.out.trans u)) Hdb.out)
  have HCc := Lib.hid (fun W (u : Up w1 W) => stable_bod _ _ _ _ _ _ _ (Keep.upS (Hu1.out.trans u)) Hdc.out)
  have HTs := Lib.hid (fun W (u : Up w1 W) => HT.out.up (Hu1.out.trans u))
  clear hb0 hb1 hb2 hb3 hu1
  go_wp2_with fail
  refine (alive_true _ (HTs.out _ (Up.refl _))).mono ?_
  rintro e w2 ⟨rfl, hu2⟩
  have Hu2 := Lib.hid hu2
  clear hu2
  obtain ⟨JX, hJX⟩ : ∃ x, joinA f msg a b = x := ⟨_, rfl⟩
  obtain ⟨JY, hJY⟩ : ∃ x, joinA f msg b c = x := ⟨_, rfl⟩
  have HJX := Lib.hid hJX; have HJY := Lib.hid hJY
  have Hj1 := Lib.hid (fun W (u : Up w1 W) => by have h := join_any (2 * N) (d + 1) HN.out f (.agg #[.slice ma f.msgs.length mc, .slice ea f.enums.length ec]) (.slice av al ac) (.slice au am an) (.slice bv bl bc) (.slice bu bm bn) msg a b W (HF.out _ u) (HA.out _ u) (HB.out _ u) (HTs.out _ u) Hna.out Hnb.out; rw [hJX] at h; exact h)
  have Hj2 := Lib.hid (fun W (u : Up w1 W) => by have h := join_any (2 * N) (d + 1) HN.out f (.agg #[.slice ma f.msgs.length mc, .slice ea f.enums.length ec]) (.slice bv bl bc) (.slice bu bm bn) (.slice cv cl cc) (.slice cu cm cn) msg b c W (HF.out _ u) (HB.out _ u) (HCc.out _ u) (HTs.out _ u) Hnb.out Hnc.out; rw [hJY] at h; exact h)
  clear hJX hJY
  obtain ⟨JXb, JXe⟩ := JX
  obtain ⟨JYb, JYe⟩ := JY
  simp only at Hj1 Hj2
  obtain ⟨f0, f1, a0, a1, b0, b1, c0, c1⟩ := HC.out w2 Hu2.out
  go_wp2_with fail
  refine (Hj1.out _ Hu2.out).mono ?_
  rintro e w3 ⟨vv, vu, rfl, hd, hu'⟩
  obtain ⟨xv, xl, xc, xu, xm, xn, hxy⟩ := bod_two hd
  simp only [List.cons.injEq, and_true] at hxy
  obtain ⟨rfl, rfl⟩ := hxy
  have Hd := Lib.hid (bod_all hd)
  have HU3 := Lib.hid (Hu2.out.trans hu')
  clear f0 f1 a0 a1 b0 b1 c0 c1 hu' hd 
  go_upto_region 4 with (fail)
  have hbn := blk_new w3 (.cells #[.slice xv xl xc, .slice xu xm xn] 29) (g := w3.heap.size) rfl
  have hua := (Up.refl w3).alloc (.cells #[.slice xv xl xc, .slice xu xm xn] 29)
  have HDx := Lib.hid (stable_bod _ _ _ _ _ _ _ (Keep.upS hua) Hd.out)
  have HU4 := Lib.hid (HU3.out.trans hua)
  obtain ⟨Gx, hG⟩ : ∃ G, w3.heap.size = G := ⟨_, rfl⟩
  rw [hG] at hbn ⊢
  generalize hw : w3.alloc (.cells #[.slice xv xl xc, .slice xu xm xn] 29) = w4 at *
  have HXx := Lib.hid (fun W (u : Up w4 W) => (⟨cell_of_row W _ 0 _ _ _ (u.blk hbn), cell_of_row W _ 1 _ _ _ (u.blk hbn)⟩ : W.cell? ⟨Gx, 0, none⟩ = some (.slice xv xl xc) ∧ W.cell? ⟨Gx, 1, none⟩ = some (.slice xu xm xn)))
  clear hw hbn hua Hd hG
  obtain ⟨f0, f1, a0, a1, b0, b1, c0, c1⟩ := HC.out w4 HU4.out
  obtain ⟨x0, x1⟩ := HXx.out w4 (Up.refl _)
  go_wp2_with fail
  refine (Hj2.out _ HU4.out).mono ?_
  rintro e w5 ⟨vv, vu, rfl, hd, hu'⟩
  obtain ⟨yv, yl, yc, yu, ym, yn, hxy⟩ := bod_two hd
  simp only [List.cons.injEq, and_true] at hxy
  obtain ⟨rfl, rfl⟩ := hxy
  have Hd := Lib.hid (bod_all hd)
  have HDx := Lib.hid (stable_bod _ _ _ _ _ _ _ (Keep.upS hu') HDx.out)
  have HXx := Lib.hid (fun W (u : Up w5 W) => HXx.out W (hu'.trans u))
  have HU5 := Lib.hid (HU4.out.trans hu')
  clear f0 f1 a0 a1 b0 b1 c0 c1 hu' hd x0 x1
  go_upto_region 5 with (fail)
  have hbn := blk_new w5 (.cells #[.slice yv yl yc, .slice yu ym yn] 29) (g := w5.heap.size) rfl
  have hua := (Up.refl w5).alloc (.cells #[.slice yv yl yc, .slice yu ym yn] 29)
  have HDx := Lib.hid (stable_bod _ _ _ _ _ _ _ (Keep.upS hua) HDx.out)
  have HDy := Lib.hid (stable_bod _ _ _ _ _ _ _ (Keep.upS hua) Hd.out)
  have HU6 := Lib.hid (HU5.out.trans hua)
  obtain ⟨Gy, hG⟩ : ∃ G, w5.heap.size = G := ⟨_, rfl⟩
  rw [hG] at hbn ⊢
  generalize hw : w5.alloc (.cells #[.slice yv yl yc, .slice yu ym yn] 29) = w6 at *
  have HXx := Lib.hid (fun W (u : Up w6 W) => HXx.out W (hua.trans u))
  have HXy := Lib.hid (fun W (u : Up w6 W) => (⟨cell_of_row W _ 0 _ _ _ (u.blk hbn), cell_of_row W _ 1 _ _ _ (u.blk hbn)⟩ : W.cell? ⟨Gy, 0, none⟩ = some (.slice yv yl yc) ∧ W.cell? ⟨Gy, 1, none⟩ = some (.slice yu ym yn)))
  clear hw hbn hua Hd hG
  clear Hj1 Hj2
  obtain ⟨f0, f1, a0, a1, b0, b1, c0, c1⟩ := HC.out w6 HU6.out
  go_wp2_with fail
  refine (wrong_bod (d + 1) _ _ _ f msg a _ (HF.out _ HU6.out) (HA.out _ HU6.out) (HTs.out _ HU6.out)).mono ?_
  rintro e w7 ⟨rfl, hu'⟩
  have HU7 := Lib.hid (HU6.out.trans hu')
  have HDx := Lib.hid (stable_bod _ _ _ _ _ _ _ (Keep.upS hu') HDx.out)
  have HXx := Lib.hid (fun W (u : Up w7 W) => HXx.out W (hu'.trans u))
  have HDy := Lib.hid (stable_bod _ _ _ _ _ _ _ (Keep.upS hu') HDy.out)
  have HXy := Lib.hid (fun W (u : Up w7 W) => HXy.out W (hu'.trans u))
  clear f0 f1 a0 a1 b0 b1 c0 c1 hu'
  obtain ⟨WA, hWA⟩ : ∃ x, wrongA f msg a = x := ⟨_, rfl⟩
  rw [hWA]
  have HWA := Lib.hid hWA
  clear hWA
  go_upto_if 43 with (fail)
  go_cut [] (fun wc => Up w7 wc)
  case first =>
    by_cases hwa : WA = 0
    case neg =>
      go_wp2_with fail
      go_meet
      exact Up.refl _
    subst hwa
    have hnil := joinA_nil HWA.out
    have Hj3 := Lib.hid (fun W (u : Up w1 W) => by have h := join_any (2 * N) (d + 1) HN.out f (.agg #[.slice ma f.msgs.length mc, .slice ea f.enums.length ec]) (.slice av al ac) (.slice au am an) (.slice none 0 0) (.slice none 0 0) msg a bod0 W (HF.out _ u) (HA.out _ u) (bod0_at d All W) (HTs.out _ u) Hna.out (unk_nil _ _); rw [hnil.1] at h; exact h)
    have Hj4 := Lib.hid (fun W (u : Up w1 W) => by have h := join_any (2 * N) (d + 1) HN.out f (.agg #[.slice ma f.msgs.length mc, .slice ea f.enums.length ec]) (.slice none 0 0) (.slice none 0 0) (.slice av al ac) (.slice au am an) msg bod0 a W (HF.out _ u) (bod0_at d All W) (HA.out _ u) (HTs.out _ u) (unk_nil _ _) Hna.out; rw [hnil.2] at h; exact h)
    clear hnil
    simp only at Hj3 Hj4
    have HV := Lib.hid (Up.refl w7)
    obtain ⟨f0, f1, a0, a1, b0, b1, c0, c1⟩ := HC.out w7 HU7.out
    go_wp2_with fail
    refine (Hj3.out _ HU7.out).mono ?_
    rintro e w8 ⟨vv, vu, rfl, hd, hu'⟩
    obtain ⟨pv, pl, pc, pu, pm, pn, hxy⟩ := bod_two hd
    simp only [List.cons.injEq, and_true] at hxy
    obtain ⟨rfl, rfl⟩ := hxy
    have Hd := Lib.hid (bod_all hd)
    have HU8 := Lib.hid (HU7.out.trans hu')
    have HV := Lib.hid (HV.out.trans hu')
    clear f0 f1 a0 a1 b0 b1 c0 c1 hu' hd 
    go_upto_region 7 with (fail)
    have hbn := blk_new w8 (.cells #[.slice pv pl pc, .slice pu pm pn] 29) (g := w8.heap.size) rfl
    have hua := (Up.refl w8).alloc (.cells #[.slice pv pl pc, .slice pu pm pn] 29)
    have HDp := Lib.hid (stable_bod _ _ _ _ _ _ _ (Keep.upS hua) Hd.out)
    have HU9 := Lib.hid (HU8.out.trans hua)
    have HV := Lib.hid (HV.out.trans hua)
    obtain ⟨Gp, hG⟩ : ∃ G, w8.heap.size = G := ⟨_, rfl⟩
    rw [hG] at hbn ⊢
    generalize hw : w8.alloc (.cells #[.slice pv pl pc, .slice pu pm pn] 29) = w9 at *
    have HXp := Lib.hid (fun W (u : Up w9 W) => (⟨cell_of_row W _ 0 _ _ _ (u.blk hbn), cell_of_row W _ 1 _ _ _ (u.blk hbn)⟩ : W.cell? ⟨Gp, 0, none⟩ = some (.slice pv pl pc) ∧ W.cell? ⟨Gp, 1, none⟩ = some (.slice pu pm pn)))
    clear hw hbn hua Hd hG
    obtain ⟨f0, f1, a0, a1, b0, b1, c0, c1⟩ := HC.out w9 HU9.out
    obtain ⟨p0, p1⟩ := HXp.out w9 (Up.refl _)
    go_wp2_with fail
    refine (Hj4.out _ HU9.out).mono ?_
    rintro e w10 ⟨vv, vu, rfl, hd, hu'⟩
    obtain ⟨qv, ql, qc, qu, qm, qn, hxy⟩ := bod_two hd
    simp only [List.cons.injEq, and_true] at hxy
    obtain ⟨rfl, rfl⟩ := hxy
    have Hd := Lib.hid (bod_all hd)
    have HDp := Lib.hid (stable_bod _ _ _ _ _ _ _ (Keep.upS hu') HDp.out)
    have HXp := Lib.hid (fun W (u : Up w10 W) => HXp.out W (hu'.trans u))
    have HU10 := Lib.hid (HU9.out.trans hu')
    have HV := Lib.hid (HV.out.trans hu')
    clear f0 f1 a0 a1 b0 b1 c0 c1 hu' hd p0 p1
    go_upto_region 8 with (fail)
    have hbn := blk_new w10 (.cells #[.slice qv ql qc, .slice qu qm qn] 29) (g := w10.heap.size) rfl
    have hua := (Up.refl w10).alloc (.cells #[.slice qv ql qc, .slice qu qm qn] 29)
    have HDp := Lib.hid (stable_bod _ _ _ _ _ _ _ (Keep.upS hua) HDp.out)
    have HDq := Lib.hid (stable_bod _ _ _ _ _ _ _ (Keep.upS hua) Hd.out)
    have HU11 := Lib.hid (HU10.out.trans hua)
    have HV := Lib.hid (HV.out.trans hua)
    obtain ⟨Gq, hG⟩ : ∃ G, w10.heap.size = G := ⟨_, rfl⟩
    rw [hG] at hbn ⊢
    generalize hw : w10.alloc (.cells #[.slice qv ql qc, .slice qu qm qn] 29) = w11 at *
    have HXp := Lib.hid (fun W (u : Up w11 W) => HXp.out W (hua.trans u))
    have HXq := Lib.hid (fun W (u : Up w11 W) => (⟨cell_of_row W _ 0 _ _ _ (u.blk hbn), cell_of_row W _ 1 _ _ _ (u.blk hbn)⟩ : W.cell? ⟨Gq, 0, none⟩ = some (.slice qv ql qc) ∧ W.cell? ⟨Gq, 1, none⟩ = some (.slice qu qm qn)))
    clear hw hbn hua Hd hG
    obtain ⟨f0, f1, a0, a1, b0, b1, c0, c1⟩ := HC.out w11 HU11.out
    obtain ⟨p0, p1⟩ := HXp.out w11 (Up.refl _)
    obtain ⟨q0, q1⟩ := HXq.out w11 (Up.refl _)
    clear Hj3 Hj4
    go_wp2_with fail
    refine (same_b (d + 1) a _ _ _ _ _ HDp.out (HA.out _ HU11.out)).mono ?_
    rintro e w12 ⟨rfl, hu'⟩
    have HU12 := Lib.hid (HU11.out.trans hu')
    have HDq := Lib.hid (stable_bod _ _ _ _ _ _ _ (Keep.upS hu') HDq.out)
    obtain ⟨q0', q1'⟩ := HXq.out w12 hu'
    clear f0 f1 a0 a1 b0 b1 c0 c1 p0 p1 q0 q1
    obtain ⟨f0, f1, a0, a1, b0, b1, c0, c1⟩ := HC.out w12 HU12.out
    go_wp2_with fail
    refine (same_b (d + 1) a _ _ _ _ _ HDq.out (HA.out _ HU12.out)).mono ?_
    rintro e w13 ⟨rfl, hu''⟩
    have Hfin := Lib.hid ((HV.out.trans hu').trans hu'')
    clear f0 f1 a0 a1 b0 b1 c0 c1 q0' q1' hu' hu''
    go_wp2_with fail
    go_meet
    exact Hfin.out
  case rest =>
  have HU8 := Lib.hid (HU7.out.trans hcut)
  have HDx := Lib.hid (stable_bod _ _ _ _ _ _ _ (Keep.upS hcut) HDx.out)
  have HDy := Lib.hid (stable_bod _ _ _ _ _ _ _ (Keep.upS hcut) HDy.out)
  have HXx := Lib.hid (fun W (u : Up wc W) => HXx.out W (hcut.trans u))
  have HXy := Lib.hid (fun W (u : Up wc W) => HXy.out W (hcut.trans u))
  clear hcut
  by_cases hxe : JXe = 0
  case neg =>
    have d0 : (JXe != 0) = true := by simpa using hxe
    obtain ⟨f0, f1, _⟩ := HC.out wc HU8.out
    go_wp2_with fail
    go_ret
    exact ⟨rfl, Hu1.out.trans HU8.out⟩
  by_cases hye : JYe = 0
  case neg =>
    have d0 : (JYe != 0) = true := by simpa using hye
    subst hxe
    obtain ⟨f0, f1, _⟩ := HC.out wc HU8.out
    go_wp2_with fail
    go_ret
    exact ⟨rfl, Hu1.out.trans HU8.out⟩
  subst hxe
  subst hye
  obtain ⟨f0, f1, _⟩ := HC.out wc HU8.out
  obtain ⟨MX, hMX⟩ : ∃ x, mixedN f = x := ⟨_, rfl⟩
  have hmx := mixed_r _ f wc (HF.out _ HU8.out)
  rw [hMX] at hmx
  have HMX := Lib.hid hMX; have Hmx := Lib.hid hmx
  clear hMX hmx
  go_wp2_with fail
  refine Hmx.out.mono ?_
  rintro e w9 ⟨rfl, hu'⟩
  have HU9 := Lib.hid (HU8.out.trans hu')
  have HDx := Lib.hid (stable_bod _ _ _ _ _ _ _ (Keep.upS hu') HDx.out)
  have HDy := Lib.hid (stable_bod _ _ _ _ _ _ _ (Keep.upS hu') HDy.out)
  have HXx := Lib.hid (fun W (u : Up w9 W) => HXx.out W (hu'.trans u))
  have HXy := Lib.hid (fun W (u : Up w9 W) => HXy.out W (hu'.trans u))
  clear f0 f1 hu' Hmx
  cases MX with
  | true =>
    go_wp2_with fail
    go_ret
    exact ⟨rfl, Hu1.out.trans HU9.out⟩
  | false =>
  have h3 := joinA_three (a := a) (b := b) (c := c) (by rw [HJX.out]) (by rw [HJY.out]) HMX.out
  have hux := joinA_unk (a := a) (b := b) (by rw [HJX.out]) Hua.out Hub.out
  have huy := joinA_unk (a := b) (b := c) (by rw [HJY.out]) Hub.out Huc.out
  rw [HJX.out, HJY.out] at h3
  rw [HJX.out] at hux
  rw [HJY.out] at huy
  simp only at h3 hux huy
  have Hux := Lib.hid hux; have Huy := Lib.hid huy
  obtain ⟨JU, hJU⟩ : ∃ x, joinA f msg JXb c = x := ⟨_, rfl⟩
  obtain ⟨JV, hJV⟩ : ∃ x, joinA f msg a JYb = x := ⟨_, rfl⟩
  rw [hJU, hJV] at h3
  have HJU := Lib.hid hJU; have HJV := Lib.hid hJV; have H3 := Lib.hid h3
  clear hJU hJV h3 hux huy
  obtain ⟨JUb, JUe⟩ := JU
  obtain ⟨JVb, JVe⟩ := JV
  simp only at H3
  have Hj5 := Lib.hid (fun W (u : Up w9 W) => by have h := join_any (2 * N) (d + 1) HN.out f (.agg #[.slice ma f.msgs.length mc, .slice ea f.enums.length ec]) (.slice xv xl xc) (.slice xu xm xn) (.slice cv cl cc) (.slice cu cm cn) msg JXb c W (HF.out _ (HU9.out.trans u)) (stable_bod _ _ _ _ _ _ _ (Keep.upS u) HDx.out) (HCc.out _ (HU9.out.trans u)) (HTs.out _ (HU9.out.trans u)) Hux.out Hnc.out; rw [HJU.out] at h; exact h)
  have Hj6 := Lib.hid (fun W (u : Up w9 W) => by have h := join_any (2 * N) (d + 1) HN.out f (.agg #[.slice ma f.msgs.length mc, .slice ea f.enums.length ec]) (.slice av al ac) (.slice au am an) (.slice yv yl yc) (.slice yu ym yn) msg a JYb W (HF.out _ (HU9.out.trans u)) (HA.out _ (HU9.out.trans u)) (stable_bod _ _ _ _ _ _ _ (Keep.upS u) HDy.out) (HTs.out _ (HU9.out.trans u)) Hna.out Huy.out; rw [HJV.out] at h; exact h)
  simp only at Hj5 Hj6
  have HR := Lib.hid (Up.refl w9)
  obtain ⟨f0, f1, a0, a1, b0, b1, c0, c1⟩ := HC.out w9 HU9.out
  obtain ⟨x0, x1⟩ := HXx.out w9 (Up.refl _)
  obtain ⟨y0, y1⟩ := HXy.out w9 (Up.refl _)
  go_wp2_with fail
  refine (Hj5.out _ HR.out).mono ?_
  rintro e w10 ⟨vv, vu, rfl, hd, hu'⟩
  obtain ⟨rv, rl, rc, ru, rm, rn, hxy⟩ := bod_two hd
  simp only [List.cons.injEq, and_true] at hxy
  obtain ⟨rfl, rfl⟩ := hxy
  have Hd := Lib.hid (bod_all hd)
  have HDx := Lib.hid (stable_bod _ _ _ _ _ _ _ (Keep.upS hu') HDx.out)
  have HXx := Lib.hid (fun W (u : Up w10 W) => HXx.out W (hu'.trans u))
  have HDy := Lib.hid (stable_bod _ _ _ _ _ _ _ (Keep.upS hu') HDy.out)
  have HXy := Lib.hid (fun W (u : Up w10 W) => HXy.out W (hu'.trans u))
  have HU10 := Lib.hid (HU9.out.trans hu')
  have HR := Lib.hid (HR.out.trans hu')
  clear f0 f1 a0 a1 b0 b1 c0 c1 hu' hd x0 x1 y0 y1
  go_upto_region 13 with (fail)
  have hbn := blk_new w10 (.cells #[.slice rv rl rc, .slice ru rm rn] 29) (g := w10.heap.size) rfl
  have hua := (Up.refl w10).alloc (.cells #[.slice rv rl rc, .slice ru rm rn] 29)
  have HDx := Lib.hid (stable_bod _ _ _ _ _ _ _ (Keep.upS hua) HDx.out)
  have HDy := Lib.hid (stable_bod _ _ _ _ _ _ _ (Keep.upS hua) HDy.out)
  have HDr := Lib.hid (stable_bod _ _ _ _ _ _ _ (Keep.upS hua) Hd.out)
  have HU11 := Lib.hid (HU10.out.trans hua)
  have HR := Lib.hid (HR.out.trans hua)
  obtain ⟨Gr, hG⟩ : ∃ G, w10.heap.size = G := ⟨_, rfl⟩
  rw [hG] at hbn ⊢
  generalize hw : w10.alloc (.cells #[.slice rv rl rc, .slice ru rm rn] 29) = w11 at *
  have HXx := Lib.hid (fun W (u : Up w11 W) => HXx.out W (hua.trans u))
  have HXy := Lib.hid (fun W (u : Up w11 W) => HXy.out W (hua.trans u))
  have HXr := Lib.hid (fun W (u : Up w11 W) => (⟨cell_of_row W _ 0 _ _ _ (u.blk hbn), cell_of_row W _ 1 _ _ _ (u.blk hbn)⟩ : W.cell? ⟨Gr, 0, none⟩ = some (.slice rv rl rc) ∧ W.cell? ⟨Gr, 1, none⟩ = some (.slice ru rm rn)))
  clear hw hbn hua Hd hG
  obtain ⟨f0, f1, a0, a1, b0, b1, c0, c1⟩ := HC.out w11 HU11.out
  obtain ⟨x0, x1⟩ := HXx.out w11 (Up.refl _)
  obtain ⟨y0, y1⟩ := HXy.out w11 (Up.refl _)
  obtain ⟨r0, r1⟩ := HXr.out w11 (Up.refl _)
  go_wp2_with fail
  refine (Hj6.out _ HR.out).mono ?_
  rintro e w12 ⟨vv, vu, rfl, hd, hu'⟩
  obtain ⟨sv, sl, sc, su, sm, sn, hxy⟩ := bod_two hd
  simp only [List.cons.injEq, and_true] at hxy
  obtain ⟨rfl, rfl⟩ := hxy
  have Hd := Lib.hid (bod_all hd)
  have HDx := Lib.hid (stable_bod _ _ _ _ _ _ _ (Keep.upS hu') HDx.out)
  have HXx := Lib.hid (fun W (u : Up w12 W) => HXx.out W (hu'.trans u))
  have HDy := Lib.hid (stable_bod _ _ _ _ _ _ _ (Keep.upS hu') HDy.out)
  have HXy := Lib.hid (fun W (u : Up w12 W) => HXy.out W (hu'.trans u))
  have HDr := Lib.hid (stable_bod _ _ _ _ _ _ _ (Keep.upS hu') HDr.out)
  have HXr := Lib.hid (fun W (u : Up w12 W) => HXr.out W (hu'.trans u))
  have HU12 := Lib.hid (HU11.out.trans hu')
  have HR := Lib.hid (HR.out.trans hu')
  clear f0 f1 a0 a1 b0 b1 c0 c1 hu' hd x0 x1 y0 y1 r0 r1
  go_upto_region 14 with (fail)
  have hbn := blk_new w12 (.cells #[.slice sv sl sc, .slice su sm sn] 29) (g := w12.heap.size) rfl
  have hua := (Up.refl w12).alloc (.cells #[.slice sv sl sc, .slice su sm sn] 29)
  have HDx := Lib.hid (stable_bod _ _ _ _ _ _ _ (Keep.upS hua) HDx.out)
  have HDy := Lib.hid (stable_bod _ _ _ _ _ _ _ (Keep.upS hua) HDy.out)
  have HDr := Lib.hid (stable_bod _ _ _ _ _ _ _ (Keep.upS hua) HDr.out)
  have HDs := Lib.hid (stable_bod _ _ _ _ _ _ _ (Keep.upS hua) Hd.out)
  have HU13 := Lib.hid (HU12.out.trans hua)
  have HR := Lib.hid (HR.out.trans hua)
  obtain ⟨Gs, hG⟩ : ∃ G, w12.heap.size = G := ⟨_, rfl⟩
  rw [hG] at hbn ⊢
  generalize hw : w12.alloc (.cells #[.slice sv sl sc, .slice su sm sn] 29) = w13 at *
  have HXx := Lib.hid (fun W (u : Up w13 W) => HXx.out W (hua.trans u))
  have HXy := Lib.hid (fun W (u : Up w13 W) => HXy.out W (hua.trans u))
  have HXr := Lib.hid (fun W (u : Up w13 W) => HXr.out W (hua.trans u))
  have HXs := Lib.hid (fun W (u : Up w13 W) => (⟨cell_of_row W _ 0 _ _ _ (u.blk hbn), cell_of_row W _ 1 _ _ _ (u.blk hbn)⟩ : W.cell? ⟨Gs, 0, none⟩ = some (.slice sv sl sc) ∧ W.cell? ⟨Gs, 1, none⟩ = some (.slice su sm sn)))
  clear hw hbn hua Hd hG
  clear Hj5 Hj6 HDx HDy HXx HXy
  rcases (show JUe = 5 ∨ (JUe = 0 ∧ JVe = 5) ∨ (JUe = 0 ∧ JVe = 0) by have h1 := H3.out.1; have h2 := H3.out.2.1; omega) with rfl | ⟨rfl, rfl⟩ | ⟨rfl, rfl⟩
  · go_wp2_with fail
    go_ret
    exact ⟨rfl, Hu1.out.trans HU13.out⟩
  · go_wp2_with fail
    go_ret
    exact ⟨rfl, Hu1.out.trans HU13.out⟩
  · obtain rfl : JUb = JVb := H3.out.2.2 rfl rfl
    obtain ⟨r0, r1⟩ := HXr.out w13 (Up.refl _)
    obtain ⟨s0, s1⟩ := HXs.out w13 (Up.refl _)
    go_wp2_with fail
    refine (same_b (d + 1) JUb _ _ _ _ _ HDr.out HDs.out).mono ?_
    rintro e wz ⟨rfl, huz⟩
    have hfin := Hu1.out.trans (HU13.out.trans huz)
    have Hfin := Lib.hid hfin
    clear hfin r0 r1 s0 s1 huz
    go_wp2_with fail
    go_ret
    exact ⟨rfl, Hfin.out⟩
end Go.Proofs.YtplgegffapikoaaDoor
