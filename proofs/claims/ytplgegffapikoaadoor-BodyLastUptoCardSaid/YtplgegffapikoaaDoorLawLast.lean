/-
  The law BodyLast (written by gen_lawlast.py).
-/
import Derived.Test.YtplgegffapikoaaDoorLastKit
import Derived.Test.YtplgegffapikoaaDoorPt05
import Derived.Test.YtplgegffapikoaaDoorPt11
import Derived.Test.YtplgegffapikoaaDoorPt46
set_option linter.unusedVariables false
namespace Go.Proofs.YtplgegffapikoaaDoor
open Go.RowKit
set_option maxRecDepth 100000 in
set_option maxHeartbeats 1600000 in
theorem one_b (d : Nat) (v : Val) (p1 p2 p3 : Option Addr) (g1 g2 g3 : Nat) (w : World) (hv : DValD d All w v [.int .i64 v.1, .slice p1 v.2.1.length g1, .slice p2 v.2.2.1.length g2, .slice p3 v.2.2.2.length g3]) :
    Calls Tryd.prog 23 #[.agg #[.int .i64 v.1, .slice p1 v.2.1.length g1, .slice p2 v.2.2.1.length g2, .slice p3 v.2.2.2.length g3]] w fun e w' => ∃ g, e = .returned (.agg #[.slice (some ⟨g, 0, none⟩) 1 1, .slice none 0 0]) ∧ DBodF (d + 1) All w' (.mk [v] []) [.slice (some ⟨g, 0, none⟩) 1 1, .slice none 0 0] ∧ Up w w' := by
  obtain ⟨vn, vb, vy, vs⟩ := v
  simp only at hv ⊢
  have Hv := Lib.hid hv
  clear hv
  go_enter Tryd.func23, Tryd.ntmps23
  go_wp2_with fail
  generalize hW : ((w.alloc (.cells #[.int .i64 vn, .slice p1 vb.length g1, .slice p2 vy.length g2, .slice p3 vs.length g3] 34)).alloc (.cells #[.slice (some ⟨w.heap.size + 1 + 1, 0, none⟩) 1 1, .slice none 0 0] 29)).alloc (.cells #[.int .i64 vn, .slice p1 vb.length g1, .slice p2 vy.length g2, .slice p3 vs.length g3] 34) = W
  have hb1 : W.heap[w.heap.size + 1]? = some (.cells #[.slice (some ⟨w.heap.size + 1 + 1, 0, none⟩) 1 1, .slice none 0 0] 29 (0, 0)) := by rw [← hW]; exact blk_old _ (blk_new (w.alloc _) _ (by simp))
  have hb2 : W.heap[w.heap.size + 1 + 1]? = some (.cells #[.int .i64 vn, .slice p1 vb.length g1, .slice p2 vy.length g2, .slice p3 vs.length g3] 34 (0, 0)) := by rw [← hW]; exact blk_new ((w.alloc _).alloc _) _ (by simp)
  have hu : Up w W := by rw [← hW]; exact (((Up.refl w).alloc _).alloc _).alloc _
  clear hW
  have r0 : W.cell? ⟨w.heap.size + 1, 0, none⟩ = some (.slice (some ⟨w.heap.size + 1 + 1, 0, none⟩) 1 1) := cell_of_row W _ 0 _ _ _ hb1
  have r1 : W.cell? ⟨w.heap.size + 1, 1, none⟩ = some (.slice none 0 0) := cell_of_row W _ 1 _ _ _ hb1
  refine bodyPost_ret (v := .agg #[.slice (some ⟨w.heap.size + 1 + 1, 0, none⟩) 1 1, .slice none 0 0]) (by simp [results, Tryd.results23, go_sem, r0, r1]) rfl ?_
  exact ⟨_, rfl, one_body (t := 34) hb2 (stable_val d _ _ _ _ _ _ (Keep.upS hu) Hv.out), hu⟩
theorem val_sz (d : Nat) (S : Nat → Prop) (w : World) (x : Val) (cs : List Value) (h : DValD d S w x cs) : ValSz x := by
  obtain ⟨_, _, _, _, h0, h1, h2, h3, hz⟩ := h
  exact hz
theorem neq_sum (a b c p q r s t u : Nat) (h : a + b + c = p + q + r + (s + t + u)) : (((a : Int) + (b : Int) + (c : Int)) != ((p : Int) + (q : Int) + (r : Int) + (s : Int) + (t : Int) + (u : Int))) = false := by
  rw [bne_eq_false_iff_eq]; omega
set_option maxRecDepth 100000 in
set_option maxHeartbeats 12800000 in
theorem bodyLast_any (N d : Nat) (hN : N * 2 * 48 ≤ 140737488355328) (fv va ua vb ub : Value) (f : Fil) (msg : Int) (a b : Bod) (w : World) (hf : FilV All w fv f) (hda : DBodF (d + 1) All w a [va, ua]) (hdb : DBodF (d + 1) All w b [vb, ub])
    (hT : Tabs w) (hna : UnkLe N 12 a) (hnb : UnkLe N 12 b) :
    Calls Tryd.prog 5 #[fv, .int .i64 msg, .agg #[va, ua], .agg #[vb, ub]] w fun e w' => e = .returned (.bool true) ∧ Up w w' := by
  obtain ⟨vm, ve, rfl, hm', he''⟩ := id hf
  obtain ⟨ma, mc, rfl, _, _⟩ := hm'.val
  obtain ⟨ea, ec, rfl, _, _⟩ := he''.val
  obtain ⟨av, ac, au, an, rfl, rfl, hav, hau, haz⟩ := bod_cells hda
  obtain ⟨bv, bc, bu, bn, rfl, rfl, hbv, hbu, hbz⟩ := bod_cells hdb
  have Hf := Lib.hid hf; have Hda := Lib.hid hda; have Hdb := Lib.hid hdb; have HT := Lib.hid hT; have Hna := Lib.hid hna; have Hnb := Lib.hid hnb
  have Hav := Lib.hid hav; have Hbv := Lib.hid hbv; have Hhm := Lib.hid hm'
  unfold BodSz at haz hbz
  obtain ⟨_, haz⟩ := haz
  obtain ⟨_, hbz⟩ := hbz
  clear hf hda hdb hT hna hnb hm' he'' hav hbv hau hbu
  go_enter Tryd.func5, Tryd.ntmps5
  go_upto_region 1 with (fail)
  generalize hW : ((w.alloc (.cells #[.slice ma f.msgs.length mc, .slice ea f.enums.length ec] 25)).alloc (.cells #[.slice av a.values.length ac, .slice au a.unknown.length an] 29)).alloc (.cells #[.slice bv b.values.length bc, .slice bu b.unknown.length bn] 29) = w1
  have hb0 : w1.heap[w.heap.size]? = some (.cells #[.slice ma f.msgs.length mc, .slice ea f.enums.length ec] 25 (0, 0)) := by rw [← hW]; exact blk_old _ (blk_old _ (blk_new w _ rfl))
  have hb1 : w1.heap[w.heap.size + 1]? = some (.cells #[.slice av a.values.length ac, .slice au a.unknown.length an] 29 (0, 0)) := by rw [← hW]; exact blk_old _ (blk_new (w.alloc _) _ (by simp))
  have hb2 : w1.heap[w.heap.size + 2]? = some (.cells #[.slice bv b.values.length bc, .slice bu b.unknown.length bn] 29 (0, 0)) := by rw [← hW]; exact blk_new ((w.alloc _).alloc _) _ (by simp)
  have hu1 : Up w w1 := by rw [← hW]; exact (((Up.refl w).alloc _).alloc _).alloc _
  clear hW
  have HC := Lib.hid (fun (W : World) (u : Up w1 W) => (⟨cell_of_row W _ 0 _ _ _ (u.blk hb0), cell_of_row W _ 1 _ _ _ (u.blk hb0), cell_of_row W _ 0 _ _ _ (u.blk hb1), cell_of_row W _ 1 _ _ _ (u.blk hb1), cell_of_row W _ 0 _ _ _ (u.blk hb2), cell_of_row W _ 1 _ _ _ (u.blk hb2)⟩ :
    W.cell? ⟨w.heap.size, 0, none⟩ = some (.slice ma f.msgs.length mc) ∧ W.cell? ⟨w.heap.size, 1, none⟩ = some (.slice ea f.enums.length ec) ∧ W.cell? ⟨w.heap.size + 1, 0, none⟩ = some (.slice av a.values.length ac) ∧ W.cell? ⟨w.heap.size + 1, 1, none⟩ = some (.slice au a.unknown.length an) ∧ W.cell? ⟨w.heap.size + 1 + 1, 0, none⟩ = some (.slice bv b.values.length bc) ∧ W.cell? ⟨w.heap.size + 1 + 1, 1, none⟩ = some (.slice bu b.unknown.length bn)))
  have Hu1 := Lib.hid hu1
  have HF := Lib.hid (fun W (u : Up w1 W) => Hf.out.up (Hu1.out.trans u))
  have HA := Lib.hid (fun W (u : Up w1 W) => stable_bod _ _ _ _ _ _ _ (Keep.upS (Hu1.out.trans u)) Hda.out)
  have HB := Lib.hid (fun W (u : Up w1 W) => stable_bod _ _ _ _ _ _ _ (Keep.upS (Hu1.out.trans u)) Hdb.out)
  have HTs := Lib.hid (fun W (u : Up w1 W) => HT.out.up (Hu1.out.trans u))
  have HVa := Lib.hid (fun W (u : Up w1 W) => Hav.out.up (stable_val d) (Hu1.out.trans u))
  have HVb := Lib.hid (fun W (u : Up w1 W) => Hbv.out.up (stable_val d) (Hu1.out.trans u))
  clear hb0 hb1 hb2 hu1
  go_wp2_with fail
  refine (alive_true _ (HTs.out _ (Up.refl _))).mono ?_
  rintro e w2 ⟨rfl, hu2⟩
  have Hu2 := Lib.hid hu2
  clear hu2
  obtain ⟨J, hJ⟩ : ∃ x, joinA f msg a b = x := ⟨_, rfl⟩
  have HJ := Lib.hid hJ
  have hj1 := join_any N (d + 1) hN f (.agg #[.slice ma f.msgs.length mc, .slice ea f.enums.length ec]) (.slice av a.values.length ac) (.slice au a.unknown.length an) (.slice bv b.values.length bc) (.slice bu b.unknown.length bn) msg a b w2 (HF.out _ Hu2.out) (HA.out _ Hu2.out) (HB.out _ Hu2.out) (HTs.out _ Hu2.out) Hna.out Hnb.out
  rw [hJ] at hj1
  obtain ⟨c, JE⟩ := J
  simp only at hj1
  have Hj1 := Lib.hid hj1
  clear hj1 hJ
  obtain ⟨f0, f1, a0, a1, b0, b1⟩ := HC.out w2 Hu2.out
  go_wp2_with fail
  refine Hj1.out.mono ?_
  rintro e w3 ⟨vv, vu, rfl, hd, hu'⟩
  have hd := bod_all hd
  obtain ⟨cv, cc, cu, cn, rfl, rfl, hcv, _, hcz⟩ := bod_cells hd
  unfold BodSz at hcz
  obtain ⟨_, hcz⟩ := hcz
  have Hd := Lib.hid hd
  have Hcv := Lib.hid hcv
  have HU3 := Lib.hid (Hu2.out.trans hu')
  clear f0 f1 a0 a1 b0 b1 hu' hd hcv Hj1
  go_upto_region 4 with (fail)
  have hbn := blk_new w3 (.cells #[.slice cv c.values.length cc, .slice cu c.unknown.length cn] 29) (g := w3.heap.size) rfl
  have hua := (Up.refl w3).alloc (.cells #[.slice cv c.values.length cc, .slice cu c.unknown.length cn] 29)
  have HU4 := Lib.hid (HU3.out.trans hua)
  have Hdc := Lib.hid (stable_bod _ _ _ _ _ _ _ (Keep.upS hua) Hd.out)
  have Hvc := Lib.hid (Hcv.out.up (stable_val d) hua)
  obtain ⟨G, hG⟩ : ∃ G, w3.heap.size = G := ⟨_, rfl⟩
  rw [hG] at hbn ⊢
  generalize hw : w3.alloc (.cells #[.slice cv c.values.length cc, .slice cu c.unknown.length cn] 29) = w4 at *
  have HX := Lib.hid (fun W (u : Up w4 W) => (⟨cell_of_row W _ 0 _ _ _ (u.blk hbn), cell_of_row W _ 1 _ _ _ (u.blk hbn)⟩ : W.cell? ⟨G, 0, none⟩ = some (.slice cv c.values.length cc) ∧ W.cell? ⟨G, 1, none⟩ = some (.slice cu c.unknown.length cn)))
  have HVc := Lib.hid (fun W (u : Up w4 W) => Hvc.out.up (stable_val d) u)
  clear hw hbn hua hG Hd Hcv Hvc
  by_cases hje : JE = 0
  case neg =>
    have d0 : (JE != 0) = true := by simpa using hje
    obtain ⟨x0, x1⟩ := HX.out w4 (Up.refl _)
    have hc0 : c = bod0 := by have h := joinA_err (f := f) (msg := msg) (a := a) (b := b) (by rw [HJ.out]; exact hje); rw [HJ.out] at h; exact h
    have Hc0 := Lib.hid hc0
    clear hc0
    go_wp2_with fail
    refine (same_b (d + 1) c _ _ _ _ _ Hdc.out (by rw [Hc0.out]; exact bod0_at d All _)).mono ?_
    rintro e w5 ⟨rfl, hu5⟩
    have Hfin := Lib.hid (Hu1.out.trans (HU4.out.trans hu5))
    clear x0 x1 hu5
    go_wp2_with fail
    go_ret
    exact ⟨rfl, Hfin.out⟩
  subst hje
  obtain ⟨wa, wb, _, _⟩ := joinA_ok (f := f) (msg := msg) (a := a) (b := b) (by rw [HJ.out])
  obtain ⟨hright, hm0, hm1, _⟩ := wrongA_zero wa
  obtain ⟨mi, rfl⟩ : ∃ mi : Nat, msg = mi := ⟨msg.toNat, by omega⟩
  have hmi : mi < f.msgs.length := by omega
  have hlaw := fun (k : Nat) (hk : k < (f.msgs[mi]).fields.length) => last_law (f := f) (mi := mi) (a := a) (b := b) (by rw [HJ.out]) hmi hk
  have hunk := last_unk (f := f) (mi := mi) (a := a) (b := b) (by rw [HJ.out]) hmi
  rw [HJ.out] at hlaw hunk
  simp only at hlaw hunk
  obtain ⟨mb, mo, cs, hma, _, _, hcs, hd⟩ := Hhm.out.at hmi
  subst hma
  obtain ⟨vf, vb2, hd, hfs, hbs, hnm⟩ := hd
  subst hd
  obtain ⟨fa, fc, rfl, _, _⟩ := hfs.val
  obtain ⟨ba, bac, rfl, _, _⟩ := hbs.val
  have s1 := hcs 1 _ rfl
  have HS := Lib.hid (fun W (u : Up w1 W) => (Hu1.out.trans u).cell_some s1)
  have Hlaw := Lib.hid hlaw; have Hunk := Lib.hid hunk
  have HFs := Lib.hid (fun W (u : Up w1 W) => hfs.up stable_fld (Hu1.out.trans u))
  have hm2 : (mi : Int) < (f.msgs.length : Int) := by omega
  have hm3 : (0 : Int) ≤ (mi : Int) := by omega
  have hmb : mb < w.heap.size := by assumption
  clear hcs hfs hbs hnm hlaw hunk wa wb hright hm0 hm1 s1 Hhm
  generalize f.msgs[mi] = m at *
  obtain ⟨f0, f1, _, _, _, _⟩ := HC.out w4 HU4.out
  have s1 := HS.out w4 HU4.out
  go_wp2_with fail
  clear f0 f1 s1
  go_loopw [48] (fun i wr => ∃ k : Nat, k ≤ m.fields.length ∧ i = .int .i64 k ∧ Up w4 wr) (fun i _ => m.fields.length - (intOf i).toNat)
  case atStart => exact ⟨0, by omega, rfl, Up.refl _⟩
  case round =>
    obtain ⟨k, hk, rfl, hu⟩ := hrel
    by_cases hlt : k < m.fields.length
    case neg =>
      obtain ⟨f0, f1, a0, a1, b0, b1⟩ := HC.out wr (HU4.out.trans hu)
      obtain ⟨x0, x1⟩ := HX.out wr hu
      have Hfin := Lib.hid (Hu1.out.trans (HU4.out.trans hu))
      have hun := Hunk.out
      have hun2 : ((c.unknown.length : Int) == (a.unknown.length : Int) + (b.unknown.length : Int)) = true := by rw [beq_iff_eq]; omega
      clear hu hun
      go_wp2_with fail
      go_ret
      exact ⟨rfl, Hfin.out⟩
    obtain ⟨xb, xo, rfl, hfa⟩ := fld_at (HFs.out _ (HU4.out.trans hu)) hlt
    obtain ⟨l1, l2, l3⟩ := Hlaw.out k hlt
    have Hfa := Lib.hid hfa
    obtain ⟨_, ⟨c0, c1, c2, c3, c4, c5⟩, _⟩ := hfa
    have L1 := Lib.hid l1; have L2 := Lib.hid l2; have L3 := Lib.hid l3
    have i0 : (0 : Int) ≤ (k : Int) := by omega
    have i1 : (k : Int) < (m.fields.length : Int) := by omega
    have Hu := Lib.hid hu
    clear hu l1 l2 l3
    generalize m.fields[k] = x at *
    obtain ⟨wl, rfl⟩ : ∃ wl : World, wl = wr := ⟨_, rfl⟩
    go_upto_region 9 with (fail)
    have hbx := blk_new wl (.cells #[.string ⟨x.name.toArray⟩, .int .i64 x.number, .int .i64 x.kind, .string ⟨x.type.toArray⟩, .bool x.many, .int .i64 x.choice] 53) (g := wl.heap.size) rfl
    have hux := (Up.refl wl).alloc (.cells #[.string ⟨x.name.toArray⟩, .int .i64 x.number, .int .i64 x.kind, .string ⟨x.type.toArray⟩, .bool x.many, .int .i64 x.choice] 53)
    obtain ⟨T, hT⟩ : ∃ T, wl.heap.size = T := ⟨_, rfl⟩
    rw [hT] at hbx ⊢
    generalize hw : wl.alloc (.cells #[.string ⟨x.name.toArray⟩, .int .i64 x.number, .int .i64 x.kind, .string ⟨x.type.toArray⟩, .bool x.many, .int .i64 x.choice] 53) = wx at *
    have Hx := Lib.hid (fun W (u : Up wx W) => (⟨cell_of_row W _ 1 _ _ _ (u.blk hbx), cell_of_row W _ 2 _ _ _ (u.blk hbx), cell_of_row W _ 4 _ _ _ (u.blk hbx), cell_of_row W _ 5 _ _ _ (u.blk hbx)⟩ : W.cell? ⟨T, 1, none⟩ = some (.int .i64 x.number) ∧ W.cell? ⟨T, 2, none⟩ = some (.int .i64 x.kind) ∧ W.cell? ⟨T, 4, none⟩ = some (.bool x.many) ∧ W.cell? ⟨T, 5, none⟩ = some (.int .i64 x.choice)))
    have HUx := Lib.hid (Hu.out.trans hux)
    clear hw hbx hux c0 c1 c2 c3 c4 c5 hT
    have HUq := Lib.hid (Up.refl wx)
    obtain ⟨f0, f1, a0, a1, b0, b1⟩ := HC.out wx (HU4.out.trans (HUx.out.trans HUq.out))
    obtain ⟨x0, x1⟩ := HX.out wx (HUx.out.trans HUq.out)
    obtain ⟨t1, t2, t4, t5⟩ := Hx.out wx HUq.out
    have hget := get_v d (.slice av a.values.length ac) (.slice au a.unknown.length an) a.values x.number wx (HVa.out _ (HU4.out.trans (HUx.out.trans HUq.out))) ⟨_, _, _, rfl⟩
    obtain ⟨Vp, hVp⟩ : ∃ y, (findV a.values x.number).getD val0 = y := ⟨_, rfl⟩
    obtain ⟨kp, hkp⟩ : ∃ y, (findV a.values x.number).isSome = y := ⟨_, rfl⟩
    rw [hVp, hkp] at hget
    have HVp := Lib.hid hVp; have HKp := Lib.hid hkp
    obtain ⟨pn, pb, py, ps⟩ := Vp
    simp only at hget
    have Hget := Lib.hid hget
    clear hget hVp hkp
    go_wp2_with fail
    refine Hget.out.mono ?_
    rintro e wp ⟨p1, p4, p2, p5, p3, p6, rfl, hdv, hu'⟩
    have Hdv := Lib.hid hdv
    have HUq := Lib.hid (HUq.out.trans hu')
    clear f0 f1 a0 a1 b0 b1 x0 x1 t1 t2 t4 t5 hdv hu' Hget
    go_upto_region 10 with (fail)
    have hbn := blk_new wp (.cells #[.int .i64 pn, .slice p1 pb.length p4, .slice p2 py.length p5, .slice p3 ps.length p6] 34) (g := wp.heap.size) rfl
    have hua := (Up.refl wp).alloc (.cells #[.int .i64 pn, .slice p1 pb.length p4, .slice p2 py.length p5, .slice p3 ps.length p6] 34)
    have HUq := Lib.hid (HUq.out.trans hua)
    have Hdv2 := Lib.hid (stable_val d _ _ _ _ _ _ (Keep.upS hua) Hdv.out)
    obtain ⟨Gp, hG⟩ : ∃ G, wp.heap.size = G := ⟨_, rfl⟩
    rw [hG] at hbn ⊢
    generalize hw : wp.alloc (.cells #[.int .i64 pn, .slice p1 pb.length p4, .slice p2 py.length p5, .slice p3 ps.length p6] 34) = wp' at *
    have HBp := Lib.hid (fun W (u : Up wp' W) => (⟨cell_of_row W _ 0 _ _ _ (u.blk hbn), cell_of_row W _ 1 _ _ _ (u.blk hbn), cell_of_row W _ 2 _ _ _ (u.blk hbn), cell_of_row W _ 3 _ _ _ (u.blk hbn)⟩ : W.cell? ⟨Gp, 0, none⟩ = some (.int .i64 pn) ∧ W.cell? ⟨Gp, 1, none⟩ = some (.slice p1 pb.length p4) ∧ W.cell? ⟨Gp, 2, none⟩ = some (.slice p2 py.length p5) ∧ W.cell? ⟨Gp, 3, none⟩ = some (.slice p3 ps.length p6)))
    have HDp := Lib.hid (fun W (u : Up wp' W) => stable_val d _ _ _ _ _ _ (Keep.upS u) Hdv2.out)
    have HPc := Lib.hid (Up.refl wp')
    clear hw hbn hua hG Hdv Hdv2
    obtain ⟨f0, f1, a0, a1, b0, b1⟩ := HC.out wp' (HU4.out.trans (HUx.out.trans HUq.out))
    obtain ⟨x0, x1⟩ := HX.out wp' (HUx.out.trans HUq.out)
    obtain ⟨t1, t2, t4, t5⟩ := Hx.out wp' HUq.out
    have hget := get_v d (.slice bv b.values.length bc) (.slice bu b.unknown.length bn) b.values x.number wp' (HVb.out _ (HU4.out.trans (HUx.out.trans HUq.out))) ⟨_, _, _, rfl⟩
    obtain ⟨Vq, hVq⟩ : ∃ y, (findV b.values x.number).getD val0 = y := ⟨_, rfl⟩
    obtain ⟨kq, hkq⟩ : ∃ y, (findV b.values x.number).isSome = y := ⟨_, rfl⟩
    rw [hVq, hkq] at hget
    have HVq := Lib.hid hVq; have HKq := Lib.hid hkq
    obtain ⟨qn, qb, qy, qs⟩ := Vq
    simp only at hget
    have Hget := Lib.hid hget
    clear hget hVq hkq
    go_wp2_with fail
    refine Hget.out.mono ?_
    rintro e wq ⟨q1, q4, q2, q5, q3, q6, rfl, hdv, hu'⟩
    have Hdv := Lib.hid hdv
    have HUq := Lib.hid (HUq.out.trans hu')
    have HPc := Lib.hid (HPc.out.trans hu')
    clear f0 f1 a0 a1 b0 b1 x0 x1 t1 t2 t4 t5 hdv hu' Hget
    go_upto_region 11 with (fail)
    have hbn := blk_new wq (.cells #[.int .i64 qn, .slice q1 qb.length q4, .slice q2 qy.length q5, .slice q3 qs.length q6] 34) (g := wq.heap.size) rfl
    have hua := (Up.refl wq).alloc (.cells #[.int .i64 qn, .slice q1 qb.length q4, .slice q2 qy.length q5, .slice q3 qs.length q6] 34)
    have HUq := Lib.hid (HUq.out.trans hua)
    have HPc := Lib.hid (HPc.out.trans hua)
    have Hdv2 := Lib.hid (stable_val d _ _ _ _ _ _ (Keep.upS hua) Hdv.out)
    obtain ⟨Gq, hG⟩ : ∃ G, wq.heap.size = G := ⟨_, rfl⟩
    rw [hG] at hbn ⊢
    generalize hw : wq.alloc (.cells #[.int .i64 qn, .slice q1 qb.length q4, .slice q2 qy.length q5, .slice q3 qs.length q6] 34) = wq' at *
    have HBq := Lib.hid (fun W (u : Up wq' W) => (⟨cell_of_row W _ 0 _ _ _ (u.blk hbn), cell_of_row W _ 1 _ _ _ (u.blk hbn), cell_of_row W _ 2 _ _ _ (u.blk hbn), cell_of_row W _ 3 _ _ _ (u.blk hbn)⟩ : W.cell? ⟨Gq, 0, none⟩ = some (.int .i64 qn) ∧ W.cell? ⟨Gq, 1, none⟩ = some (.slice q1 qb.length q4) ∧ W.cell? ⟨Gq, 2, none⟩ = some (.slice q2 qy.length q5) ∧ W.cell? ⟨Gq, 3, none⟩ = some (.slice q3 qs.length q6)))
    have HDq := Lib.hid (fun W (u : Up wq' W) => stable_val d _ _ _ _ _ _ (Keep.upS u) Hdv2.out)
    have HQc := Lib.hid (Up.refl wq')
    clear hw hbn hua hG Hdv Hdv2
    obtain ⟨f0, f1, a0, a1, b0, b1⟩ := HC.out wq' (HU4.out.trans (HUx.out.trans HUq.out))
    obtain ⟨x0, x1⟩ := HX.out wq' (HUx.out.trans HUq.out)
    obtain ⟨t1, t2, t4, t5⟩ := Hx.out wq' HUq.out
    have hget := get_v d (.slice cv c.values.length cc) (.slice cu c.unknown.length cn) c.values x.number wq' (HVc.out _ ((HUx.out.trans HUq.out))) ⟨_, _, _, rfl⟩
    obtain ⟨Vr, hVr⟩ : ∃ y, (findV c.values x.number).getD val0 = y := ⟨_, rfl⟩
    obtain ⟨kr, hkr⟩ : ∃ y, (findV c.values x.number).isSome = y := ⟨_, rfl⟩
    rw [hVr, hkr] at hget
    have HVr := Lib.hid hVr; have HKr := Lib.hid hkr
    obtain ⟨rn, rb, ry, rs⟩ := Vr
    simp only at hget
    have Hget := Lib.hid hget
    clear hget hVr hkr
    go_wp2_with fail
    refine Hget.out.mono ?_
    rintro e wr ⟨r1, r4, r2, r5, r3, r6, rfl, hdv, hu'⟩
    have Hdv := Lib.hid hdv
    have HUq := Lib.hid (HUq.out.trans hu')
    have HPc := Lib.hid (HPc.out.trans hu')
    have HQc := Lib.hid (HQc.out.trans hu')
    clear f0 f1 a0 a1 b0 b1 x0 x1 t1 t2 t4 t5 hdv hu' Hget
    go_upto_region 12 with (fail)
    have hbn := blk_new wr (.cells #[.int .i64 rn, .slice r1 rb.length r4, .slice r2 ry.length r5, .slice r3 rs.length r6] 34) (g := wr.heap.size) rfl
    have hua := (Up.refl wr).alloc (.cells #[.int .i64 rn, .slice r1 rb.length r4, .slice r2 ry.length r5, .slice r3 rs.length r6] 34)
    have HUq := Lib.hid (HUq.out.trans hua)
    have HPc := Lib.hid (HPc.out.trans hua)
    have HQc := Lib.hid (HQc.out.trans hua)
    have Hdv2 := Lib.hid (stable_val d _ _ _ _ _ _ (Keep.upS hua) Hdv.out)
    obtain ⟨Gr, hG⟩ : ∃ G, wr.heap.size = G := ⟨_, rfl⟩
    rw [hG] at hbn ⊢
    generalize hw : wr.alloc (.cells #[.int .i64 rn, .slice r1 rb.length r4, .slice r2 ry.length r5, .slice r3 rs.length r6] 34) = wr' at *
    have HBr := Lib.hid (fun W (u : Up wr' W) => (⟨cell_of_row W _ 0 _ _ _ (u.blk hbn), cell_of_row W _ 1 _ _ _ (u.blk hbn), cell_of_row W _ 2 _ _ _ (u.blk hbn), cell_of_row W _ 3 _ _ _ (u.blk hbn)⟩ : W.cell? ⟨Gr, 0, none⟩ = some (.int .i64 rn) ∧ W.cell? ⟨Gr, 1, none⟩ = some (.slice r1 rb.length r4) ∧ W.cell? ⟨Gr, 2, none⟩ = some (.slice r2 ry.length r5) ∧ W.cell? ⟨Gr, 3, none⟩ = some (.slice r3 rs.length r6)))
    have HDr := Lib.hid (fun W (u : Up wr' W) => stable_val d _ _ _ _ _ _ (Keep.upS u) Hdv2.out)
    have HRc := Lib.hid (Up.refl wr')
    clear hw hbn hua hG Hdv Hdv2
    have HUw := Lib.hid (HUx.out.trans HUq.out)
    have zp := val_sz _ _ _ _ _ (HDp.out _ HPc.out)
    have zq := val_sz _ _ _ _ _ (HDq.out _ HQc.out)
    have zr := val_sz _ _ _ _ _ (HDr.out _ HRc.out)
    unfold ValSz at zp zq zr
    simp only at zp zq zr
    obtain ⟨zp1, zp2, zp3⟩ := zp
    obtain ⟨zq1, zq2, zq3⟩ := zq
    obtain ⟨zr1, zr2, zr3⟩ := zr
    cases hmy : x.many with
    | true =>
      obtain ⟨t1, t2, t4, t5⟩ := Hx.out wr' HUq.out
      obtain ⟨p0, p1', p2', p3'⟩ := HBp.out wr' HPc.out
      obtain ⟨q0, q1', q2', q3'⟩ := HBq.out wr' HQc.out
      obtain ⟨r0, r1', r2', r3'⟩ := HBr.out wr' HRc.out
      rw [hmy] at t4
      have hl := L1.out hmy
      rw [HVp.out, HVq.out, HVr.out] at hl
      have hne := neq_sum rb.length ry.length rs.length pb.length py.length ps.length qb.length qy.length qs.length (by simpa [lens] using hl)
      clear hl
      go_wp2_with fail
      go_roundw
      case rel => exact ⟨k + 1, by omega, by go_num, HUw.out⟩
      case measure => simp [intOf]; omega
    | false =>
    cases hkq : kq with
    | true =>
      have hqv : findV b.values x.number = some (qn, qb, qy, qs) := by
        have h1 := HKq.out; have h2 := HVq.out
        rw [hkq] at h1
        cases hf : findV b.values x.number with
        | none => rw [hf] at h1; cases h1
        | some y => rw [hf] at h2; exact congrArg some h2
      have Hqv := Lib.hid hqv
      clear hqv
      by_cases hmg : kp = true ∧ x.kind = 10
      · obtain ⟨rfl, hk10⟩ := hmg
        obtain ⟨t1, t2, t4, t5⟩ := Hx.out wr' HUq.out
        rw [hmy] at t4
        rw [hk10] at t2
        subst hkq
        go_wp2_with fail
        go_roundw
        case rel => exact ⟨k + 1, by omega, by go_num, HUw.out⟩
        case measure => simp [intOf]; omega
      · have hcond : x.kind ≠ 10 ∨ findV a.values x.number = none := by
          by_cases h10 : x.kind = 10
          · right
            cases hf : findV a.values x.number with
            | none => rfl
            | some y => exact absurd ⟨by rw [← HKp.out, hf]; rfl, h10⟩ hmg
          · exact .inl h10
        have hrv := L2.out _ hmy Hqv.out hcond
        have hr1 : kr = true := by rw [← HKr.out, hrv]; rfl
        have hr2 : (rn, rb, ry, rs) = (qn, qb, qy, qs) := by rw [← HVr.out, hrv]; rfl
        simp only [Prod.mk.injEq] at hr2
        obtain ⟨rfl, rfl, rfl, rfl⟩ := hr2
        subst hr1
        subst hkq
        have hbr : (kp && (x.kind == 10)) = false := by
          cases hkp : kp with
          | false => rfl
          | true =>
            have : x.kind ≠ 10 := fun h => hmg ⟨hkp, h⟩
            simpa using this
        clear hcond hrv hmg
        obtain ⟨t1, t2, t4, t5⟩ := Hx.out wr' HUq.out
        rw [hmy] at t4
        go_upto_region 17 with (fail)
        go_cut [112] (fun e wc => e = .bool true ∧ wr' = wc)
        case first =>
          cases hkp : kp with
          | false =>
            subst hkp
            go_wp2_with fail
            go_meet
            exact ⟨rfl, rfl⟩
          | true =>
            subst hkp
            have hk10 : (x.kind == 10) = false := by simpa using hbr
            clear hbr
            go_wp2_with fail
            go_meet
            exact ⟨rfl, rfl⟩
        case rest =>
        obtain ⟨rfl, rfl⟩ := hcut
        clear t1 t2 t4 t5
        go_upto_region 18 with (fail)
        have DD : Hid (∀ W, Up wr' W → W.cell? ⟨Gq, 0, none⟩ = some (.int .i64 rn) ∧ W.cell? ⟨Gq, 1, none⟩ = some (.slice q1 rb.length q4) ∧ W.cell? ⟨Gq, 2, none⟩ = some (.slice q2 ry.length q5) ∧ W.cell? ⟨Gq, 3, none⟩ = some (.slice q3 rs.length q6) ∧ W.cell? ⟨Gr, 0, none⟩ = some (.int .i64 rn) ∧ W.cell? ⟨Gr, 1, none⟩ = some (.slice r1 rb.length r4) ∧ W.cell? ⟨Gr, 2, none⟩ = some (.slice r2 ry.length r5) ∧ W.cell? ⟨Gr, 3, none⟩ = some (.slice r3 rs.length r6)) := Lib.hid (fun W u => by obtain ⟨x0, x1, x2, x3⟩ := HBq.out W (HQc.out.trans u); obtain ⟨y0, y1, y2, y3⟩ := HBr.out W (HRc.out.trans u); exact ⟨x0, x1, x2, x3, y0, y1, y2, y3⟩)
        refine wp_region_held_drew (S := fun w' => w'.cell? ⟨Gq, 0, none⟩ = some (.int .i64 rn) ∧ w'.cell? ⟨Gq, 1, none⟩ = some (.slice q1 rb.length q4) ∧ w'.cell? ⟨Gq, 2, none⟩ = some (.slice q2 ry.length q5) ∧ w'.cell? ⟨Gq, 3, none⟩ = some (.slice q3 rs.length q6) ∧ w'.cell? ⟨Gr, 0, none⟩ = some (.int .i64 rn) ∧ w'.cell? ⟨Gr, 1, none⟩ = some (.slice r1 rb.length r4) ∧ w'.cell? ⟨Gr, 2, none⟩ = some (.slice r2 ry.length r5) ∧ w'.cell? ⟨Gr, 3, none⟩ = some (.slice r3 rs.length r6)) (by kernel_rfl) (DD.out _ (Up.refl wr').drew) (fun hHeld => ?_)
        have hu := (Up.refl wr').drew
        have hHeld := DD.out _ hu
        refine wpAnyH_take (i := 0) (v := ?_) (by simp only [List.getElem?_toArray, List.getElem?_cons_zero] <;> rfl) (by kernel_rfl) (by kernel_rfl) (by kernel_rfl) (fun _ _ _ h => by exact h) (Or.inl ⟨by rfl, ?_⟩) (by assumption) ?_
        rotate_left
        · (intro w hSw; (try dsimp only at hSw); go_simp)
          try with_reducible rfl
        rotate_left
        try simp only [Act.put, List.setIfInBounds_toArray, List.set_cons_zero, List.set_cons_succ]
        refine wpAnyH_take (i := 1) (v := ?_) (by simp only [List.getElem?_toArray, List.getElem?_cons_succ, List.getElem?_cons_zero] <;> rfl) (by kernel_rfl) (by kernel_rfl) (by kernel_rfl) (fun _ _ _ h => by exact h) (Or.inl ⟨by rfl, ?_⟩) (by assumption) ?_
        rotate_left
        · (intro w hSw; (try dsimp only at hSw); go_simp)
          try with_reducible rfl
        rotate_left
        try simp only [Act.put, List.setIfInBounds_toArray, List.set_cons_zero, List.set_cons_succ]
        refine wpAnyH_take (i := 2) (v := ?_) (by simp only [List.getElem?_toArray, List.getElem?_cons_succ, List.getElem?_cons_zero] <;> rfl) (by kernel_rfl) (by kernel_rfl) (by kernel_rfl) (fun _ _ _ h => by exact h) (Or.inl ⟨by rfl, ?_⟩) (by assumption) ?_
        rotate_left
        · (intro w hSw; (try dsimp only at hSw); go_simp)
          try with_reducible rfl
        rotate_left
        try simp only [Act.put, List.setIfInBounds_toArray, List.set_cons_zero, List.set_cons_succ]
        refine wpAnyH_take (i := 3) (v := ?_) (by simp only [List.getElem?_toArray, List.getElem?_cons_succ, List.getElem?_cons_zero] <;> rfl) (by kernel_rfl) (by kernel_rfl) (by kernel_rfl) (fun _ _ _ h => by exact h) (Or.inl ⟨by rfl, ?_⟩) (by assumption) ?_
        rotate_left
        · (intro w hSw; (try dsimp only at hSw); go_simp)
          try with_reducible rfl
        rotate_left
        try simp only [Act.put, List.setIfInBounds_toArray, List.set_cons_zero, List.set_cons_succ]
        refine wpAnyH_take (i := 4) (v := ?_) (by simp only [List.getElem?_toArray, List.getElem?_cons_succ, List.getElem?_cons_zero] <;> rfl) (by kernel_rfl) (by kernel_rfl) (by kernel_rfl) (fun _ _ _ h => by exact h) (Or.inl ⟨by rfl, ?_⟩) (by assumption) ?_
        rotate_left
        · (intro w hSw; (try dsimp only at hSw); go_simp)
          try with_reducible rfl
        rotate_left
        try simp only [Act.put, List.setIfInBounds_toArray, List.set_cons_zero, List.set_cons_succ]
        refine wpAnyH_take (i := 6) (v := ?_) (by simp only [List.getElem?_toArray, List.getElem?_cons_succ, List.getElem?_cons_zero] <;> rfl) (by kernel_rfl) (by kernel_rfl) (by kernel_rfl) (fun _ _ _ h => by exact h) (Or.inl ⟨by rfl, ?_⟩) (by assumption) ?_
        rotate_left
        · (intro w hSw; (try dsimp only at hSw); go_simp)
          try with_reducible rfl
        rotate_left
        try simp only [Act.put, List.setIfInBounds_toArray, List.set_cons_zero, List.set_cons_succ]
        refine wpAnyH_take (i := 7) (v := ?_) (by simp only [List.getElem?_toArray, List.getElem?_cons_succ, List.getElem?_cons_zero] <;> rfl) (by kernel_rfl) (by kernel_rfl) (by kernel_rfl) (fun _ _ _ h => by exact h) (Or.inl ⟨by rfl, ?_⟩) (by assumption) ?_
        rotate_left
        · (intro w hSw; (try dsimp only at hSw); go_simp)
          try with_reducible rfl
        rotate_left
        try simp only [Act.put, List.setIfInBounds_toArray, List.set_cons_zero, List.set_cons_succ]
        refine wpAnyH_ready (rs := [5]) (by kernel_rfl) (by simp) ?_
        refine AllReadyH.cons (by simp only [List.getElem?_toArray, List.getElem?_cons_succ, List.getElem?_cons_zero] <;> rfl) (fun K hK => ?_) AllReadyH.nil
        go_simp
        refine ((fun W (u : Up wr' W) => one_b d (rn, rb, ry, rs) q1 q2 q3 q4 q5 q6 W (HDq.out _ (HQc.out.trans u))) _ hu).mono ?_
        rintro e wa1 ⟨ga, rfl, hda1, hs1⟩
        have Hda1 := Lib.hid hda1
        have hu := hu.trans hs1
        refine hK.out _ _ (DD.out _ hu) (fun hHeld => ?_)
        clear hK K hHeld
        have hHeld := DD.out _ hu
        try simp only [Act.put, List.setIfInBounds_toArray, List.set_cons_zero, List.set_cons_succ]
        refine wpAnyH_ready (rs := [8]) (by kernel_rfl) (by simp) ?_
        refine AllReadyH.cons (by simp only [List.getElem?_toArray, List.getElem?_cons_succ, List.getElem?_cons_zero] <;> rfl) (fun K hK => ?_) AllReadyH.nil
        go_simp
        refine ((fun W (u : Up wr' W) => one_b d (rn, rb, ry, rs) r1 r2 r3 r4 r5 r6 W (HDr.out _ (HRc.out.trans u))) _ hu).mono ?_
        rintro e wa2 ⟨gb, rfl, hdb1, hs2⟩
        have Hdb1 := Lib.hid hdb1
        have Hda2 := Lib.hid (stable_bod _ _ _ _ _ _ _ (Keep.upS hs2) Hda1.out)
        have hu := hu.trans hs2
        refine hK.out _ _ (DD.out _ hu) (fun hHeld => ?_)
        clear hK K hHeld
        have hHeld := DD.out _ hu
        try simp only [Act.put, List.setIfInBounds_toArray, List.set_cons_zero, List.set_cons_succ]
        refine wpAnyH_ready (rs := [9]) (by kernel_rfl) (by simp) ?_
        refine AllReadyH.cons (by simp only [List.getElem?_toArray, List.getElem?_cons_succ, List.getElem?_cons_zero] <;> rfl) (fun K hK => ?_) AllReadyH.nil
        go_simp
        refine (same_b (d + 1) (.mk [(rn, rb, ry, rs)] []) _ _ _ _ _ Hda2.out Hdb1.out).mono ?_
        rintro e wa3 ⟨rfl, hs3⟩
        have hu := hu.trans hs3
        refine hK.out _ _ (DD.out _ hu) (fun hHeld => ?_)
        clear hK K hHeld
        have hHeld := DD.out _ hu
        try simp only [Act.put, List.setIfInBounds_toArray, List.set_cons_zero, List.set_cons_succ]
        refine wpAnyH_take (i := 10) (v := ?_) (by simp only [List.getElem?_toArray, List.getElem?_cons_succ, List.getElem?_cons_zero] <;> rfl) (by kernel_rfl) (by kernel_rfl) (by kernel_rfl) (fun _ _ _ h => by exact h) (Or.inl ⟨by rfl, ?_⟩) (by assumption) ?_
        rotate_left
        · (intro w hSw; (try dsimp only at hSw); go_simp)
          try with_reducible rfl
        rotate_left
        try simp only [Act.put, List.setIfInBounds_toArray, List.set_cons_zero, List.set_cons_succ]
        refine wpAnyH_take (i := 11) (v := ?_) (by simp only [List.getElem?_toArray, List.getElem?_cons_succ, List.getElem?_cons_zero] <;> rfl) (by kernel_rfl) (by kernel_rfl) (by kernel_rfl) (fun _ _ _ h => by exact h) (Or.inl ⟨by rfl, ?_⟩) (by assumption) ?_
        rotate_left
        · (intro w hSw; (try dsimp only at hSw); go_simp)
          try with_reducible rfl
        rotate_left
        try simp only [Act.put, List.setIfInBounds_toArray, List.set_cons_zero, List.set_cons_succ]
        refine wpAnyH_done (by kernel_rfl) ?_ _
        have Hend := Lib.hid (HUw.out.trans hu)
        clear hHeld hu
        go_wp2_with fail
        go_roundw
        case rel => exact ⟨k + 1, by omega, by go_num, Hend.out⟩
        case measure => simp [intOf]; omega
    | false =>
      have hqv : findV b.values x.number = none := by
        have h1 := HKq.out
        rw [hkq] at h1
        cases hf : findV b.values x.number with
        | none => rfl
        | some y => rw [hf] at h1; cases h1
      have hrv := L3.out hqv
      subst hkq
      cases hkp : kp with
      | false =>
        subst hkp
        obtain ⟨t1, t2, t4, t5⟩ := Hx.out wr' HUq.out
        rw [hmy] at t4
        clear hrv hqv
        go_wp2_with fail
        go_roundw
        case rel => exact ⟨k + 1, by omega, by go_num, HUw.out⟩
        case measure => simp [intOf]; omega
      | true =>
        subst hkp
        have Hrv := Lib.hid hrv
        clear hrv hqv
        obtain ⟨t1, t2, t4, t5⟩ := Hx.out wr' HUq.out
        rw [hmy] at t4
        obtain ⟨f0, f1, _, _, _, _⟩ := HC.out wr' (HU4.out.trans HUw.out)
        have s1 := HS.out wr' (HU4.out.trans HUw.out)
        go_wp2_with fail
        clear f0 f1 s1 t1 t2 t4 t5
        go_loopw [21, 148] (fun g i wr2 => ∃ k2 : Nat, k2 ≤ m.fields.length ∧ i = .int .i64 k2 ∧ g = .bool (goneN b.values x (m.fields.take k2)) ∧ Up wr' wr2) (fun _ i _ => m.fields.length - (intOf i).toNat)
        case atStart => exact ⟨0, by omega, rfl, rfl, Up.refl _⟩
        case round =>
          obtain ⟨k2, hk2, rfl, rfl, hu2⟩ := hrel
          by_cases hlt2 : k2 < m.fields.length
          · obtain ⟨yb, yo, he, hfa2⟩ := fld_at (HFs.out _ (HU4.out.trans (HUw.out.trans hu2))) hlt2
            simp only [Option.some.injEq, Addr.mk.injEq, and_true] at he
            obtain ⟨rfl, rfl⟩ := he
            obtain ⟨_, ⟨c0, c1, c2, c3, c4, c5⟩, _⟩ := hfa2
            have Hsn := Lib.hid (goneN_snoc (b := b.values) (x := x) hlt2)
            have j0 : (0 : Int) ≤ (k2 : Int) := by omega
            have j1 : (k2 : Int) < (m.fields.length : Int) := by omega
            have Hu2 := Lib.hid hu2
            clear hu2
            generalize m.fields[k2] = y at *
            obtain ⟨wi, rfl⟩ : ∃ wi : World, wi = wr := ⟨_, rfl⟩
            go_upto_region 25 with (fail)
            have hbx := blk_new wi (.cells #[.string ⟨y.name.toArray⟩, .int .i64 y.number, .int .i64 y.kind, .string ⟨y.type.toArray⟩, .bool y.many, .int .i64 y.choice] 53) (g := wi.heap.size) rfl
            have hux := (Up.refl wi).alloc (.cells #[.string ⟨y.name.toArray⟩, .int .i64 y.number, .int .i64 y.kind, .string ⟨y.type.toArray⟩, .bool y.many, .int .i64 y.choice] 53)
            obtain ⟨Y, hY⟩ : ∃ Y, wi.heap.size = Y := ⟨_, rfl⟩
            rw [hY] at hbx ⊢
            generalize hw : wi.alloc (.cells #[.string ⟨y.name.toArray⟩, .int .i64 y.number, .int .i64 y.kind, .string ⟨y.type.toArray⟩, .bool y.many, .int .i64 y.choice] 53) = wj at *
            have Hy := Lib.hid (fun W (u : Up wj W) => (⟨cell_of_row W _ 1 _ _ _ (u.blk hbx), cell_of_row W _ 5 _ _ _ (u.blk hbx)⟩ : W.cell? ⟨Y, 1, none⟩ = some (.int .i64 y.number) ∧ W.cell? ⟨Y, 5, none⟩ = some (.int .i64 y.choice)))
            have HUj := Lib.hid (Hu2.out.trans hux)
            clear hw hbx hux c0 c1 c2 c3 c4 c5 hY
            obtain ⟨_, _, _, _, b0, b1⟩ := HC.out wj (HU4.out.trans (HUw.out.trans HUj.out))
            obtain ⟨y1', y5'⟩ := Hy.out wj (Up.refl _)
            have hget := get_v d (.slice bv b.values.length bc) (.slice bu b.unknown.length bn) b.values y.number wj (HVb.out _ (HU4.out.trans (HUw.out.trans HUj.out))) ⟨_, _, _, rfl⟩
            have Hget := Lib.hid hget
            clear hget
            go_wp2_with fail
            refine Hget.out.mono ?_
            rintro e wk ⟨e1, e4, e2, e5, e3, e6, rfl, _, hu'⟩
            have HUk := Lib.hid (HUj.out.trans hu')
            have Hyk := Lib.hid (fun W (u : Up wk W) => Hy.out W (hu'.trans u))
            clear b0 b1 y1' y5' hu' Hget Hy HUj
            obtain ⟨ok2, hok2⟩ : ∃ z, (findV b.values y.number).isSome = z := ⟨_, rfl⟩
            rw [hok2]
            generalize (findV b.values y.number).getD val0 = GV
            obtain ⟨gn, gb', gy, gs⟩ := GV
            simp only
            go_upto_region 26 with (fail)
            have hu3 := (Up.refl wk).alloc (.cells #[.int .i64 gn, .slice e1 gb'.length e4, .slice e2 gy.length e5, .slice e3 gs.length e6] 34)
            have HUm := Lib.hid (HUk.out.trans hu3)
            have Hym := Lib.hid (Hyk.out _ hu3)
            have Hxm := Lib.hid (Hx.out _ (HUq.out.trans HUm.out))
            generalize hw : wk.alloc (.cells #[.int .i64 gn, .slice e1 gb'.length e4, .slice e2 gy.length e5, .slice e3 gs.length e6] 34) = wm at *
            clear hw hu3 HUk Hyk
            obtain ⟨g0, hg0⟩ : ∃ z, goneN b.values x (m.fields.take k2) = z := ⟨_, rfl⟩
            have Hsn2 := Lib.hid (show goneN b.values x (m.fields.take (k2 + 1)) = (g0 || (ok2 && decide (0 < x.choice) && (y.choice == x.choice))) by rw [Hsn.out, hg0]; unfold goneP; rw [hok2])
            rw [hg0]
            clear hg0 hok2 Hsn
            obtain ⟨_, y5'⟩ := Hym.out
            obtain ⟨_, _, _, t5⟩ := Hxm.out
            cases g0 with
            | true =>
              go_wp2_with fail
              go_roundw
              case rel => exact ⟨k2 + 1, by omega, by go_num, by rw [Hsn2.out]; rfl, HUm.out⟩
              case measure => simp [intOf]; omega
            | false =>
              cases ok2 with
              | false =>
                go_wp2_with fail
                go_roundw
                case rel => exact ⟨k2 + 1, by omega, by go_num, by rw [Hsn2.out]; rfl, HUm.out⟩
                case measure => simp [intOf]; omega
              | true =>
                by_cases hc0 : 0 < x.choice
                · have HD0 := Lib.hid (show decide (0 < x.choice) = true from decide_eq_true hc0)
                  cases hcc : (y.choice == x.choice) with
                  | true =>
                    have HCC := Lib.hid hcc
                    go_wp2_with fail
                    go_roundw
                    case rel => exact ⟨k2 + 1, by omega, by go_num, by rw [Hsn2.out, HD0.out, HCC.out]; rfl, HUm.out⟩
                    case measure => simp [intOf]; omega
                  | false =>
                    have HCC := Lib.hid hcc
                    go_wp2_with fail
                    go_roundw
                    case rel => exact ⟨k2 + 1, by omega, by go_num, by rw [Hsn2.out, HD0.out, HCC.out]; rfl, HUm.out⟩
                    case measure => simp [intOf]; omega
                · have HD0 := Lib.hid (show decide (0 < x.choice) = false from decide_eq_false hc0)
                  have hc1 : x.choice ≤ 0 := by omega
                  go_wp2_with fail
                  go_roundw
                  case rel => exact ⟨k2 + 1, by omega, by go_num, by rw [Hsn2.out, HD0.out]; rfl, HUm.out⟩
                  case measure => simp [intOf]; omega
          · have hk2' : k2 = m.fields.length := by omega
            subst hk2'
            rw [List.take_length]
            have HUq2 := Lib.hid (HUq.out.trans hu2)
            have HPc2 := Lib.hid (HPc.out.trans hu2)
            have HRc2 := Lib.hid (HRc.out.trans hu2)
            have HUw := Lib.hid (HUw.out.trans hu2)
            have hav : findV a.values x.number = some (pn, pb, py, ps) := by
              have h1 := HKp.out; have h2 := HVp.out
              cases hf : findV a.values x.number with
              | none => rw [hf] at h1; cases h1
              | some z => rw [hf] at h2; exact congrArg some h2
            have hrv := Hrv.out
            rw [hav] at hrv
            clear hu2 hav
            obtain ⟨wt, rfl⟩ : ∃ wt : World, wt = wr := ⟨_, rfl⟩
            cases hgv : goneN b.values x m.fields with
            | true =>
              rw [hgv, if_pos rfl] at hrv
              have hr1 : kr = false := by rw [← HKr.out, hrv]; rfl
              subst hr1
              clear hrv hgv
              go_upto_region 28 with (fail)
              go_quiet (fail)
              have Hend := Lib.hid (HUw.out.drewN nq)
              go_wp2_with fail
              go_roundw
              case rel => exact ⟨k + 1, by omega, by go_num, Hend.out⟩
              case measure => simp [intOf]; omega
            | false =>
              rw [hgv, if_neg (by decide)] at hrv
              have hr1 : kr = true := by rw [← HKr.out, hrv]; rfl
              have hr2 : (rn, rb, ry, rs) = (pn, pb, py, ps) := by rw [← HVr.out, hrv]; rfl
              simp only [Prod.mk.injEq] at hr2
              obtain ⟨rfl, rfl, rfl, rfl⟩ := hr2
              subst hr1
              clear hrv hgv
              go_upto_region 28 with (fail)
              have DD : Hid (∀ W, Up wt W → W.cell? ⟨Gp, 0, none⟩ = some (.int .i64 rn) ∧ W.cell? ⟨Gp, 1, none⟩ = some (.slice p1 rb.length p4) ∧ W.cell? ⟨Gp, 2, none⟩ = some (.slice p2 ry.length p5) ∧ W.cell? ⟨Gp, 3, none⟩ = some (.slice p3 rs.length p6) ∧ W.cell? ⟨Gr, 0, none⟩ = some (.int .i64 rn) ∧ W.cell? ⟨Gr, 1, none⟩ = some (.slice r1 rb.length r4) ∧ W.cell? ⟨Gr, 2, none⟩ = some (.slice r2 ry.length r5) ∧ W.cell? ⟨Gr, 3, none⟩ = some (.slice r3 rs.length r6)) := Lib.hid (fun W u => by obtain ⟨x0, x1, x2, x3⟩ := HBp.out W (HPc2.out.trans u); obtain ⟨y0, y1, y2, y3⟩ := HBr.out W (HRc2.out.trans u); exact ⟨x0, x1, x2, x3, y0, y1, y2, y3⟩)
              refine wp_region_held_drew (S := fun w' => w'.cell? ⟨Gp, 0, none⟩ = some (.int .i64 rn) ∧ w'.cell? ⟨Gp, 1, none⟩ = some (.slice p1 rb.length p4) ∧ w'.cell? ⟨Gp, 2, none⟩ = some (.slice p2 ry.length p5) ∧ w'.cell? ⟨Gp, 3, none⟩ = some (.slice p3 rs.length p6) ∧ w'.cell? ⟨Gr, 0, none⟩ = some (.int .i64 rn) ∧ w'.cell? ⟨Gr, 1, none⟩ = some (.slice r1 rb.length r4) ∧ w'.cell? ⟨Gr, 2, none⟩ = some (.slice r2 ry.length r5) ∧ w'.cell? ⟨Gr, 3, none⟩ = some (.slice r3 rs.length r6)) (by kernel_rfl) (DD.out _ (Up.refl wt).drew) (fun hHeld => ?_)
              have hu := (Up.refl wt).drew
              have hHeld := DD.out _ hu
              refine wpAnyH_take (i := 0) (v := ?_) (by simp only [List.getElem?_toArray, List.getElem?_cons_zero] <;> rfl) (by kernel_rfl) (by kernel_rfl) (by kernel_rfl) (fun _ _ _ h => by exact h) (Or.inl ⟨by rfl, ?_⟩) (by assumption) ?_
              rotate_left
              · (intro w hSw; (try dsimp only at hSw); go_simp)
                try with_reducible rfl
              rotate_left
              try simp only [Act.put, List.setIfInBounds_toArray, List.set_cons_zero, List.set_cons_succ]
              refine wpAnyH_take (i := 1) (v := ?_) (by simp only [List.getElem?_toArray, List.getElem?_cons_succ, List.getElem?_cons_zero] <;> rfl) (by kernel_rfl) (by kernel_rfl) (by kernel_rfl) (fun _ _ _ h => by exact h) (Or.inl ⟨by rfl, ?_⟩) (by assumption) ?_
              rotate_left
              · (intro w hSw; (try dsimp only at hSw); go_simp)
                try with_reducible rfl
              rotate_left
              try simp only [Act.put, List.setIfInBounds_toArray, List.set_cons_zero, List.set_cons_succ]
              refine wpAnyH_take (i := 2) (v := ?_) (by simp only [List.getElem?_toArray, List.getElem?_cons_succ, List.getElem?_cons_zero] <;> rfl) (by kernel_rfl) (by kernel_rfl) (by kernel_rfl) (fun _ _ _ h => by exact h) (Or.inl ⟨by rfl, ?_⟩) (by assumption) ?_
              rotate_left
              · (intro w hSw; (try dsimp only at hSw); go_simp)
                try with_reducible rfl
              rotate_left
              try simp only [Act.put, List.setIfInBounds_toArray, List.set_cons_zero, List.set_cons_succ]
              refine wpAnyH_take (i := 3) (v := ?_) (by simp only [List.getElem?_toArray, List.getElem?_cons_succ, List.getElem?_cons_zero] <;> rfl) (by kernel_rfl) (by kernel_rfl) (by kernel_rfl) (fun _ _ _ h => by exact h) (Or.inl ⟨by rfl, ?_⟩) (by assumption) ?_
              rotate_left
              · (intro w hSw; (try dsimp only at hSw); go_simp)
                try with_reducible rfl
              rotate_left
              try simp only [Act.put, List.setIfInBounds_toArray, List.set_cons_zero, List.set_cons_succ]
              refine wpAnyH_take (i := 4) (v := ?_) (by simp only [List.getElem?_toArray, List.getElem?_cons_succ, List.getElem?_cons_zero] <;> rfl) (by kernel_rfl) (by kernel_rfl) (by kernel_rfl) (fun _ _ _ h => by exact h) (Or.inl ⟨by rfl, ?_⟩) (by assumption) ?_
              rotate_left
              · (intro w hSw; (try dsimp only at hSw); go_simp)
                try with_reducible rfl
              rotate_left
              try simp only [Act.put, List.setIfInBounds_toArray, List.set_cons_zero, List.set_cons_succ]
              refine wpAnyH_take (i := 5) (v := ?_) (by simp only [List.getElem?_toArray, List.getElem?_cons_succ, List.getElem?_cons_zero] <;> rfl) (by kernel_rfl) (by kernel_rfl) (by kernel_rfl) (fun _ _ _ h => by exact h) (Or.inl ⟨by rfl, ?_⟩) (by assumption) ?_
              rotate_left
              · (intro w hSw; (try dsimp only at hSw); go_simp)
                try with_reducible rfl
              rotate_left
              try simp only [Act.put, List.setIfInBounds_toArray, List.set_cons_zero, List.set_cons_succ]
              refine wpAnyH_take (i := 6) (v := ?_) (by simp only [List.getElem?_toArray, List.getElem?_cons_succ, List.getElem?_cons_zero] <;> rfl) (by kernel_rfl) (by kernel_rfl) (by kernel_rfl) (fun _ _ _ h => by exact h) (Or.inl ⟨by rfl, ?_⟩) (by assumption) ?_
              rotate_left
              · (intro w hSw; (try dsimp only at hSw); go_simp)
                try with_reducible rfl
              rotate_left
              try simp only [Act.put, List.setIfInBounds_toArray, List.set_cons_zero, List.set_cons_succ]
              refine wpAnyH_take (i := 7) (v := ?_) (by simp only [List.getElem?_toArray, List.getElem?_cons_succ, List.getElem?_cons_zero] <;> rfl) (by kernel_rfl) (by kernel_rfl) (by kernel_rfl) (fun _ _ _ h => by exact h) (Or.inl ⟨by rfl, ?_⟩) (by assumption) ?_
              rotate_left
              · (intro w hSw; (try dsimp only at hSw); go_simp)
                try with_reducible rfl
              rotate_left
              try simp only [Act.put, List.setIfInBounds_toArray, List.set_cons_zero, List.set_cons_succ]
              refine wpAnyH_take (i := 9) (v := ?_) (by simp only [List.getElem?_toArray, List.getElem?_cons_succ, List.getElem?_cons_zero] <;> rfl) (by kernel_rfl) (by kernel_rfl) (by kernel_rfl) (fun _ _ _ h => by exact h) (Or.inl ⟨by rfl, ?_⟩) (by assumption) ?_
              rotate_left
              · (intro w hSw; (try dsimp only at hSw); go_simp)
                try with_reducible rfl
              rotate_left
              try simp only [Act.put, List.setIfInBounds_toArray, List.set_cons_zero, List.set_cons_succ]
              refine wpAnyH_take (i := 10) (v := ?_) (by simp only [List.getElem?_toArray, List.getElem?_cons_succ, List.getElem?_cons_zero] <;> rfl) (by kernel_rfl) (by kernel_rfl) (by kernel_rfl) (fun _ _ _ h => by exact h) (Or.inl ⟨by rfl, ?_⟩) (by assumption) ?_
              rotate_left
              · (intro w hSw; (try dsimp only at hSw); go_simp)
                try with_reducible rfl
              rotate_left
              try simp only [Act.put, List.setIfInBounds_toArray, List.set_cons_zero, List.set_cons_succ]
              refine wpAnyH_ready (rs := [8]) (by kernel_rfl) (by simp) ?_
              refine AllReadyH.cons (by simp only [List.getElem?_toArray, List.getElem?_cons_succ, List.getElem?_cons_zero] <;> rfl) (fun K hK => ?_) AllReadyH.nil
              go_simp
              refine ((fun W (u : Up wt W) => one_b d (rn, rb, ry, rs) p1 p2 p3 p4 p5 p6 W (HDp.out _ (HPc2.out.trans u))) _ hu).mono ?_
              rintro e wa1 ⟨ga, rfl, hda1, hs1⟩
              have Hda1 := Lib.hid hda1
              have hu := hu.trans hs1
              refine hK.out _ _ (DD.out _ hu) (fun hHeld => ?_)
              clear hK K hHeld
              have hHeld := DD.out _ hu
              try simp only [Act.put, List.setIfInBounds_toArray, List.set_cons_zero, List.set_cons_succ]
              refine wpAnyH_ready (rs := [11]) (by kernel_rfl) (by simp) ?_
              refine AllReadyH.cons (by simp only [List.getElem?_toArray, List.getElem?_cons_succ, List.getElem?_cons_zero] <;> rfl) (fun K hK => ?_) AllReadyH.nil
              go_simp
              refine ((fun W (u : Up wt W) => one_b d (rn, rb, ry, rs) r1 r2 r3 r4 r5 r6 W (HDr.out _ (HRc2.out.trans u))) _ hu).mono ?_
              rintro e wa2 ⟨gb, rfl, hdb1, hs2⟩
              have Hdb1 := Lib.hid hdb1
              have Hda2 := Lib.hid (stable_bod _ _ _ _ _ _ _ (Keep.upS hs2) Hda1.out)
              have hu := hu.trans hs2
              refine hK.out _ _ (DD.out _ hu) (fun hHeld => ?_)
              clear hK K hHeld
              have hHeld := DD.out _ hu
              try simp only [Act.put, List.setIfInBounds_toArray, List.set_cons_zero, List.set_cons_succ]
              refine wpAnyH_ready (rs := [12]) (by kernel_rfl) (by simp) ?_
              refine AllReadyH.cons (by simp only [List.getElem?_toArray, List.getElem?_cons_succ, List.getElem?_cons_zero] <;> rfl) (fun K hK => ?_) AllReadyH.nil
              go_simp
              refine (same_b (d + 1) (.mk [(rn, rb, ry, rs)] []) _ _ _ _ _ Hda2.out Hdb1.out).mono ?_
              rintro e wa3 ⟨rfl, hs3⟩
              have hu := hu.trans hs3
              refine hK.out _ _ (DD.out _ hu) (fun hHeld => ?_)
              clear hK K hHeld
              have hHeld := DD.out _ hu
              try simp only [Act.put, List.setIfInBounds_toArray, List.set_cons_zero, List.set_cons_succ]
              refine wpAnyH_take (i := 13) (v := ?_) (by simp only [List.getElem?_toArray, List.getElem?_cons_succ, List.getElem?_cons_zero] <;> rfl) (by kernel_rfl) (by kernel_rfl) (by kernel_rfl) (fun _ _ _ h => by exact h) (Or.inl ⟨by rfl, ?_⟩) (by assumption) ?_
              rotate_left
              · (intro w hSw; (try dsimp only at hSw); go_simp)
                try with_reducible rfl
              rotate_left
              try simp only [Act.put, List.setIfInBounds_toArray, List.set_cons_zero, List.set_cons_succ]
              refine wpAnyH_take (i := 14) (v := ?_) (by simp only [List.getElem?_toArray, List.getElem?_cons_succ, List.getElem?_cons_zero] <;> rfl) (by kernel_rfl) (by kernel_rfl) (by kernel_rfl) (fun _ _ _ h => by exact h) (Or.inl ⟨by rfl, ?_⟩) (by assumption) ?_
              rotate_left
              · (intro w hSw; (try dsimp only at hSw); go_simp)
                try with_reducible rfl
              rotate_left
              try simp only [Act.put, List.setIfInBounds_toArray, List.set_cons_zero, List.set_cons_succ]
              refine wpAnyH_take (i := 15) (v := ?_) (by simp only [List.getElem?_toArray, List.getElem?_cons_succ, List.getElem?_cons_zero] <;> rfl) (by kernel_rfl) (by kernel_rfl) (by kernel_rfl) (fun _ _ _ h => by exact h) (Or.inl ⟨by rfl, ?_⟩) (by assumption) ?_
              rotate_left
              · (intro w hSw; (try dsimp only at hSw); go_simp)
                try with_reducible rfl
              rotate_left
              try simp only [Act.put, List.setIfInBounds_toArray, List.set_cons_zero, List.set_cons_succ]
              refine wpAnyH_done (by kernel_rfl) ?_ _
              have Hend := Lib.hid (HUw.out.trans hu)
              clear hHeld hu
              go_wp2_with fail
              go_roundw
              case rel => exact ⟨k + 1, by omega, by go_num, Hend.out⟩
              case measure => simp [intOf]; omega
end Go.Proofs.YtplgegffapikoaaDoor
