/-
  The law BodyTells.
-/
import Derived.Test.YtplgegffapikoaaDoorPt45
import Derived.Test.YtplgegffapikoaaDoorPt05
import Derived.Test.YtplgegffapikoaaDoorPt20
import Derived.Test.YtplgegffapikoaaDoorPt11
set_option linter.unusedVariables false
namespace Go.Proofs.YtplgegffapikoaaDoor
open Go.RowKit
/-- The law's boxes of a file and of a body are as they were. -/
def KB (wx : World) (B : Nat) (vm ve va ua : Value) (w' : World) : Prop := Up wx w' ∧ w'.cell? ⟨B, 0, none⟩ = some vm ∧ w'.cell? ⟨B, 1, none⟩ = some ve ∧ w'.cell? ⟨B + 1, 0, none⟩ = some va ∧ w'.cell? ⟨B + 1, 1, none⟩ = some ua
/-- .. and those of a value and of a message. -/
def KV (wx : World) (B M : Nat) (vm ve va ua n0 n1 n2 n3 k0 k1 k2 : Value) (w' : World) : Prop := Up wx w' ∧ w'.cell? ⟨B, 0, none⟩ = some vm ∧ w'.cell? ⟨B, 1, none⟩ = some ve ∧ w'.cell? ⟨B + 1, 0, none⟩ = some va ∧ w'.cell? ⟨B + 1, 1, none⟩ = some ua ∧ w'.cell? ⟨B + 1 + 1 + 1, 0, none⟩ = some n0 ∧ w'.cell? ⟨B + 1 + 1 + 1, 1, none⟩ = some n1 ∧ w'.cell? ⟨B + 1 + 1 + 1, 2, none⟩ = some n2 ∧ w'.cell? ⟨B + 1 + 1 + 1, 3, none⟩ = some n3 ∧ w'.cell? ⟨M, 0, none⟩ = some k0 ∧ w'.cell? ⟨M, 1, none⟩ = some k1 ∧ w'.cell? ⟨M, 2, none⟩ = some k2
theorem KV.up {wx : World} {B M : Nat} {vm ve va ua n0 n1 n2 n3 k0 k1 k2 : Value} {w1 w2 : World} (h : KV wx B M vm ve va ua n0 n1 n2 n3 k0 k1 k2 w1) (u : Up w1 w2) : KV wx B M vm ve va ua n0 n1 n2 n3 k0 k1 k2 w2 := by
  obtain ⟨h0, h1, h2, h3, h4, h5, h6, h7, h8, h9, h10, h11⟩ := h
  exact ⟨h0.trans u, u.cell_some h1, u.cell_some h2, u.cell_some h3, u.cell_some h4, u.cell_some h5, u.cell_some h6, u.cell_some h7, u.cell_some h8, u.cell_some h9, u.cell_some h10, u.cell_some h11⟩
theorem one_body {d : Nat} {W : World} {g : Nat} {x : Val} {z0 z1 z2 z3 : Value} {t : TypeId} (hb : W.heap[g]? = some (.cells #[z0, z1, z2, z3] t (0, 0))) (hx : DValD d All W x [z0, z1, z2, z3]) : DBodF (d + 1) All W (.mk [x] []) [.slice (some ⟨g, 0, none⟩) 1 1, .slice none 0 0] := by
  refine ⟨_, _, rfl, ⟨some ⟨g, 0, none⟩, 1, rfl, by show (1 : Nat) ≤ 1; omega, by unfold maxLen; omega, (fun h => by cases h), fun i hi => ?_⟩, rdS_nil _ _ _ _, by unfold BodSz Bod.values Bod.unknown; simp⟩
  have h0 : i = 0 := by have : i < 1 := hi; omega
  subst h0
  refine ⟨g, 0, [z0, z1, z2, z3], rfl, trivial, lt_of_block hb, rfl, fun j u hu => ?_, hx⟩
  have hj : j < 4 := by
    have := (List.getElem?_eq_some_iff.1 hu).1
    simpa using this
  rcases j with _ | _ | _ | _ | j
  · simp at hu; subst hu; exact cell_of_row W g 0 _ _ _ hb
  · simp at hu; subst hu; exact cell_of_row W g 1 _ _ _ hb
  · simp at hu; subst hu; exact cell_of_row W g 2 _ _ _ hb
  · simp at hu; subst hu; exact cell_of_row W g 3 _ _ _ hb
  · omega
theorem KB.up {wx : World} {B : Nat} {vm ve va ua : Value} {w1 w2 : World} (h : KB wx B vm ve va ua w1) (u : Up w1 w2) : KB wx B vm ve va ua w2 := ⟨h.1.trans u, u.cell_some h.2.1, u.cell_some h.2.2.1, u.cell_some h.2.2.2.1, u.cell_some h.2.2.2.2⟩
set_option maxRecDepth 100000 in
set_option maxHeartbeats 12800000 in
theorem bodyTells_any (N d : Nat) (hN : N * 2 * 48 ≤ 140737488355328) (fv va ua vb ub : Value) (f : Fil) (msg kind : Int) (n : Nat) (a b : Bod) (v : Val) (p1 p2 p3 : Option Addr) (g1 g2 g3 : Nat) (w : World) (hf : FilV All w fv f) (hsz : FilSz f) (hda : DBodF (d + 1) All w a [va, ua]) (hdb : DBodF (d + 1) All w b [vb, ub])
    (hv : DValD d All w v [.int .i64 v.1, .slice p1 v.2.1.length g1, .slice p2 v.2.2.1.length g2, .slice p3 v.2.2.2.length g3]) (hT : Tabs w) (hna : UnkLe N 12 a) (hnb : UnkLe N 12 b) (hn : n < 2 ^ 64) :
    Calls Tryd.prog 3 #[fv, .int .i64 msg, .agg #[va, ua], .agg #[vb, ub], .agg #[.int .i64 v.1, .slice p1 v.2.1.length g1, .slice p2 v.2.2.1.length g2, .slice p3 v.2.2.2.length g3], .int .i64 kind, .int .u64 n] w fun e w' => e = .returned (.bool true) ∧ Up w w' := by
  obtain ⟨vm, ve, rfl, hm', he''⟩ := id hf
  obtain ⟨ma, mc, rfl, _, _⟩ := hm'.val
  obtain ⟨ea, ec, rfl, _, _⟩ := he''.val
  have hle : f.msgs.length + f.enums.length ≤ 9223372036854775807 := by have h1 := hsz.1; have h2 := hsz.2.1; omega
  obtain ⟨av1, ac1, au1, ac2, rfl, rfl, hav, hau, haz⟩ := bod_cells hda
  obtain ⟨bv1, bc1, bu1, bc2, rfl, rfl, hbv, hbu, hbz⟩ := bod_cells hdb
  obtain ⟨vn, vb2, vy2, vs2⟩ := v
  simp only at hv ⊢
  have Hf := Lib.hid hf; have Hda := Lib.hid hda; have Hdb := Lib.hid hdb; have Hv := Lib.hid hv; have HT := Lib.hid hT; have Hna := Lib.hid hna; have Hnb := Lib.hid hnb; have Hle := Lib.hid hle
  have Hav := Lib.hid hav; have Hau := Lib.hid hau; have Haz := Lib.hid haz
  clear hf hda hdb hv hT hna hnb hle hm' he'' hav hau haz hbv hbu hbz hsz
  go_enter Tryd.func3, Tryd.ntmps3
  go_upto_region 1 with (fail)
  generalize hW : (((w.alloc (.cells #[.slice ma f.msgs.length mc, .slice ea f.enums.length ec] 25)).alloc (.cells #[.slice av1 a.values.length ac1, .slice au1 a.unknown.length ac2] 29)).alloc (.cells #[.slice bv1 b.values.length bc1, .slice bu1 b.unknown.length bc2] 29)).alloc (.cells #[.int .i64 vn, .slice p1 vb2.length g1, .slice p2 vy2.length g2, .slice p3 vs2.length g3] 34) = w1
  have hb0 : w1.heap[w.heap.size]? = some (.cells #[.slice ma f.msgs.length mc, .slice ea f.enums.length ec] 25 (0, 0)) := by rw [← hW]; exact blk_old _ (blk_old _ (blk_old _ (blk_new w _ rfl)))
  have hb1 : w1.heap[w.heap.size + 1]? = some (.cells #[.slice av1 a.values.length ac1, .slice au1 a.unknown.length ac2] 29 (0, 0)) := by rw [← hW]; exact blk_old _ (blk_old _ (blk_new (w.alloc _) _ (by simp)))
  have hb2 : w1.heap[w.heap.size + 2]? = some (.cells #[.slice bv1 b.values.length bc1, .slice bu1 b.unknown.length bc2] 29 (0, 0)) := by rw [← hW]; exact blk_old _ (blk_new ((w.alloc _).alloc _) _ (by simp))
  have hb3 : w1.heap[w.heap.size + 3]? = some (.cells #[.int .i64 vn, .slice p1 vb2.length g1, .slice p2 vy2.length g2, .slice p3 vs2.length g3] 34 (0, 0)) := by rw [← hW]; exact blk_new (((w.alloc _).alloc _).alloc _) _ (by simp)
  have hu1 : Up w w1 := by rw [← hW]; exact ((((Up.refl w).alloc _).alloc _).alloc _).alloc _
  clear hW
  have HC := Lib.hid (fun (W : World) (u : Up w1 W) => (⟨cell_of_row W _ 0 _ _ _ (u.blk hb0), cell_of_row W _ 1 _ _ _ (u.blk hb0), cell_of_row W _ 0 _ _ _ (u.blk hb1), cell_of_row W _ 1 _ _ _ (u.blk hb1), cell_of_row W _ 0 _ _ _ (u.blk hb2), cell_of_row W _ 1 _ _ _ (u.blk hb2)⟩ :
    W.cell? ⟨w.heap.size, 0, none⟩ = some (.slice ma f.msgs.length mc) ∧ W.cell? ⟨w.heap.size, 1, none⟩ = some (.slice ea f.enums.length ec) ∧ W.cell? ⟨w.heap.size + 1, 0, none⟩ = some (.slice av1 a.values.length ac1) ∧ W.cell? ⟨w.heap.size + 1, 1, none⟩ = some (.slice au1 a.unknown.length ac2) ∧ W.cell? ⟨w.heap.size + 1 + 1, 0, none⟩ = some (.slice bv1 b.values.length bc1) ∧ W.cell? ⟨w.heap.size + 1 + 1, 1, none⟩ = some (.slice bu1 b.unknown.length bc2)))
  have HCv := Lib.hid (fun (W : World) (u : Up w1 W) => (⟨cell_of_row W _ 0 _ _ _ (u.blk hb3), cell_of_row W _ 1 _ _ _ (u.blk hb3), cell_of_row W _ 2 _ _ _ (u.blk hb3), cell_of_row W _ 3 _ _ _ (u.blk hb3)⟩ :
    W.cell? ⟨w.heap.size + 1 + 1 + 1, 0, none⟩ = some (.int .i64 vn) ∧ W.cell? ⟨w.heap.size + 1 + 1 + 1, 1, none⟩ = some (.slice p1 vb2.length g1) ∧ W.cell? ⟨w.heap.size + 1 + 1 + 1, 2, none⟩ = some (.slice p2 vy2.length g2) ∧ W.cell? ⟨w.heap.size + 1 + 1 + 1, 3, none⟩ = some (.slice p3 vs2.length g3)))
  have Hu1 := Lib.hid hu1
  have HF := Lib.hid (fun W (u : Up w1 W) => Hf.out.up (Hu1.out.trans u))
  have HA := Lib.hid (fun W (u : Up w1 W) => stable_bod _ _ _ _ _ _ _ (Keep.upS (Hu1.out.trans u)) Hda.out)
  have HB := Lib.hid (fun W (u : Up w1 W) => stable_bod _ _ _ _ _ _ _ (Keep.upS (Hu1.out.trans u)) Hdb.out)
  have HTs := Lib.hid (fun W (u : Up w1 W) => HT.out.up (Hu1.out.trans u))
  clear hb0 hb1 hb2 hb3 hu1
  have Hwl := Lib.hid (fun wx (u : Up w1 wx) => wrong_bod (d + 1) (.agg #[.slice ma f.msgs.length mc, .slice ea f.enums.length ec]) (.slice av1 a.values.length ac1) (.slice au1 a.unknown.length ac2) f msg a wx (HF.out _ u) (HA.out _ u) (HTs.out _ u))
  have Hwr := Lib.hid (fun wx (u : Up w1 wx) => wrong_all (d + 1) (.agg #[.slice ma f.msgs.length mc, .slice ea f.enums.length ec]) (.slice av1 a.values.length ac1) (.slice au1 a.unknown.length ac2) f msg a wx (HF.out _ u) (HA.out _ u) Hle.out)
  have Hfl := Lib.hid (fun wx => fits_any kind n wx hn)
  have Hfr := Lib.hid (fun wx => fits_r kind n wx hn)
  have Hks : Hid (KB w1 w.heap.size (.slice ma f.msgs.length mc) (.slice ea f.enums.length ec) (.slice av1 a.values.length ac1) (.slice au1 a.unknown.length ac2) w1) := Lib.hid (by obtain ⟨f0, f1, a0, a1, _⟩ := HC.out w1 (Up.refl _); exact ⟨Up.refl _, f0, f1, a0, a1⟩)
  obtain ⟨WA, hWA⟩ : ∃ x, wrongA f msg a = x := ⟨_, rfl⟩
  rw [hWA] at Hwl Hwr
  generalize fitsN kind n = FN at *
  have HWA := Lib.hid hWA
  clear hWA
  go_region_held3 (fun w' => Up w1 w' ∧ w'.cell? ⟨w.heap.size, 0, none⟩ = some (.slice ma f.msgs.length mc) ∧ w'.cell? ⟨w.heap.size, 1, none⟩ = some (.slice ea f.enums.length ec) ∧ w'.cell? ⟨w.heap.size + 1, 0, none⟩ = some (.slice av1 a.values.length ac1) ∧ w'.cell? ⟨w.heap.size + 1, 1, none⟩ = some (.slice au1 a.unknown.length ac2))
    (first | (exact KB.up Hks.out ((Up.refl w1).drew)) | (exact hkn))
    (first
      | (go_at_call 6; refine (Hfl.out _).mono ?_; rintro e wn ⟨rfl, rfl⟩; have hkn : KB w1 w.heap.size (.slice ma f.msgs.length mc) (.slice ea f.enums.length ec) (.slice av1 a.values.length ac1) (.slice au1 a.unknown.length ac2) _ := (by assumption); have Hkn := Lib.hid hkn)
      | (go_at_call 7; refine (Hfr.out _).mono ?_; rintro e wn ⟨rfl, rfl⟩; have hkn : KB w1 w.heap.size (.slice ma f.msgs.length mc) (.slice ea f.enums.length ec) (.slice av1 a.values.length ac1) (.slice au1 a.unknown.length ac2) _ := (by assumption); have Hkn := Lib.hid hkn)
      | (go_at_call 8; refine (Hwl.out _ (And.left (by assumption : KB w1 w.heap.size (.slice ma f.msgs.length mc) (.slice ea f.enums.length ec) (.slice av1 a.values.length ac1) (.slice au1 a.unknown.length ac2) _))).mono ?_; rintro e wn ⟨rfl, hun⟩; have hkn : KB w1 w.heap.size (.slice ma f.msgs.length mc) (.slice ea f.enums.length ec) (.slice av1 a.values.length ac1) (.slice au1 a.unknown.length ac2) wn := KB.up (by assumption) hun; have Hkn := Lib.hid hkn)
      | (go_at_call 9; refine (Hwr.out _ (And.left (by assumption : KB w1 w.heap.size (.slice ma f.msgs.length mc) (.slice ea f.enums.length ec) (.slice av1 a.values.length ac1) (.slice au1 a.unknown.length ac2) _))).mono ?_; rintro e wn ⟨rfl, hun⟩; have hkn : KB w1 w.heap.size (.slice ma f.msgs.length mc) (.slice ea f.enums.length ec) (.slice av1 a.values.length ac1) (.slice au1 a.unknown.length ac2) wn := KB.up (by assumption) hun; have Hkn := Lib.hid hkn)
      | (go_at_call 11; refine (own_b (d + 1) a _ _ _ (HA.out _ (And.left (by assumption : KB w1 w.heap.size (.slice ma f.msgs.length mc) (.slice ea f.enums.length ec) (.slice av1 a.values.length ac1) (.slice au1 a.unknown.length ac2) _)))).mono ?_; rintro e wn ⟨vv5, vu5, rfl, hd5, hun⟩; have Hd5 := Lib.hid (bod_all hd5); have hkn : KB w1 w.heap.size (.slice ma f.msgs.length mc) (.slice ea f.enums.length ec) (.slice av1 a.values.length ac1) (.slice au1 a.unknown.length ac2) wn := KB.up (by assumption) hun; have Hkn := Lib.hid hkn)
      | (go_at_call 10; refine (same_b (d + 1) a _ _ _ _ _ Hd5.out (HA.out _ (And.left (by assumption : KB w1 w.heap.size (.slice ma f.msgs.length mc) (.slice ea f.enums.length ec) (.slice av1 a.values.length ac1) (.slice au1 a.unknown.length ac2) _)))).mono ?_; rintro e wn ⟨rfl, hun⟩; have hkn : KB w1 w.heap.size (.slice ma f.msgs.length mc) (.slice ea f.enums.length ec) (.slice av1 a.values.length ac1) (.slice au1 a.unknown.length ac2) wn := KB.up (by assumption) hun; have Hkn := Lib.hid hkn))
  have Hun := Lib.hid Hkn.out.1
  clear hun hkn Hkn Hd5 hd5 Hwl Hfl Hfr Hks
  obtain ⟨f0, f1, a0, a1, b0, b1⟩ := HC.out wn Hun.out
  have hkey := fun W (u : Up w1 W) => join_any N (d + 1) hN f (.agg #[.slice ma f.msgs.length mc, .slice ea f.enums.length ec]) (.slice av1 a.values.length ac1) (.slice au1 a.unknown.length ac2) (.slice bv1 b.values.length bc1) (.slice bu1 b.unknown.length bc2) msg a b W (HF.out _ u) (HA.out _ u) (HB.out _ u) (HTs.out _ u) Hna.out Hnb.out
  have Hj1 := Lib.hid hkey
  have hkey := fun W (u : Up w1 W) => join_ref N (d + 1) hN f (.agg #[.slice ma f.msgs.length mc, .slice ea f.enums.length ec]) (.slice av1 a.values.length ac1) (.slice au1 a.unknown.length ac2) (.slice bv1 b.values.length bc1) (.slice bu1 b.unknown.length bc2) msg a b W (HF.out _ u) (HA.out _ u) (HB.out _ u) Hna.out Hnb.out Hle.out
  have Hj2 := Lib.hid hkey
  clear hkey
  generalize joinA f msg a b = JA at *
  obtain ⟨JB, JE⟩ := JA
  simp only at Hj1 Hj2
  go_wp2_with fail
  refine (Hj1.out _ Hun.out).mono ?_
  rintro e w2 ⟨vv, vu, rfl, hj1, hu2'⟩
  have hj1 := bod_all hj1
  obtain ⟨x1, y1, z1, x2, y2, z2, hxy⟩ := bod_two hj1
  simp only [List.cons.injEq, and_true] at hxy
  obtain ⟨rfl, rfl⟩ := hxy
  have hu2 := Hun.out.trans hu2'
  have hj1' := Lib.hid hj1; have Hu2 := Lib.hid hu2
  clear f0 f1 a0 a1 b0 b1 hu2 hu2' hj1
  go_upto_region 4 with (fail)
  have hbx := blk_new w2 (.cells #[.slice x1 y1 z1, .slice x2 y2 z2] 29) (g := w2.heap.size) rfl
  have hu3 := Hu2.out.trans ((Up.refl w2).alloc (.cells #[.slice x1 y1 z1, .slice x2 y2 z2] 29))
  have Hjx := Lib.hid (stable_bod _ _ _ _ _ _ _ (Keep.upS ((Up.refl w2).alloc (.cells #[.slice x1 y1 z1, .slice x2 y2 z2] 29))) hj1'.out)
  obtain ⟨X, hX⟩ : ∃ X, w2.heap.size = X := ⟨_, rfl⟩
  rw [hX] at hbx ⊢
  generalize hw3 : w2.alloc (.cells #[.slice x1 y1 z1, .slice x2 y2 z2] 29) = w3 at *
  clear hw3 hj1'
  obtain ⟨f0, f1, a0, a1, b0, b1⟩ := HC.out w3 hu3
  have Hbx := Lib.hid hbx; have Hu3 := Lib.hid hu3
  clear hbx hu3
  go_wp2_with fail
  refine (Hj2.out _ Hu3.out).mono ?_
  rintro e w4 ⟨vv, vu, rfl, hj2, hu4'⟩
  obtain ⟨x3, y3, z3, x4, y4, z4, hxy⟩ := bod_two hj2
  simp only [List.cons.injEq, and_true] at hxy
  obtain ⟨rfl, rfl⟩ := hxy
  have hj2' := Lib.hid hj2
  have Hbx4 := Lib.hid (hu4'.blk Hbx.out); have Hu4 := Lib.hid (Hu3.out.trans hu4')
  have Hjx4 := Lib.hid (stable_bod _ _ _ _ _ _ _ (Keep.upS hu4') Hjx.out)
  clear f0 f1 a0 a1 b0 b1 hu4' hj2 Hbx Hu3 Hjx Hj1 Hj2
  go_upto_region 5 with (fail)
  have hby := blk_new w4 (.cells #[.slice x3 y3 z3, .slice x4 y4 z4] 29) (g := w4.heap.size) rfl
  have hu5' := (Up.refl w4).alloc (.cells #[.slice x3 y3 z3, .slice x4 y4 z4] 29)
  have Hjy := Lib.hid (stable_bod _ _ _ _ _ _ _ (Keep.upS hu5') hj2'.out)
  have Hjx5 := Lib.hid (stable_bod _ _ _ _ _ _ _ (Keep.upS hu5') Hjx4.out)
  have hbx5 := hu5'.blk Hbx4.out
  have hu5 := Hu4.out.trans hu5'
  obtain ⟨Y, hY⟩ : ∃ Y, w4.heap.size = Y := ⟨_, rfl⟩
  rw [hY] at hby ⊢
  generalize hw5 : w4.alloc (.cells #[.slice x3 y3 z3, .slice x4 y4 z4] 29) = w5 at *
  clear hw5 hj2' Hjx4 Hbx4 hu5'
  have x0 : w5.cell? ⟨X, 0, none⟩ = some (.slice x1 y1 z1) := cell_of_row w5 _ 0 _ _ _ hbx5
  have x1' : w5.cell? ⟨X, 1, none⟩ = some (.slice x2 y2 z2) := cell_of_row w5 _ 1 _ _ _ hbx5
  have y0 : w5.cell? ⟨Y, 0, none⟩ = some (.slice x3 y3 z3) := cell_of_row w5 _ 0 _ _ _ hby
  have y1' : w5.cell? ⟨Y, 1, none⟩ = some (.slice x4 y4 z4) := cell_of_row w5 _ 1 _ _ _ hby
  have Hu5 := Lib.hid hu5
  clear hu5 hby hbx5
  go_wp2_with fail
  refine (same_b (d + 1) JB _ _ _ _ _ Hjx5.out Hjy.out).mono ?_
  rintro e w6 ⟨rfl, hu6'⟩
  have Hu6 := Lib.hid (Hu5.out.trans hu6')
  clear x0 x1' y0 y1' hu6' Hjx5 Hjy Hu4 Hu5
  obtain ⟨f0, f1, a0, a1, b0, b1⟩ := HC.out w6 Hu6.out
  obtain ⟨v0, v1, v2, v3⟩ := HCv.out w6 Hu6.out
  have HVals := Lib.hid (fun W (u : Up w1 W) => (Hav.out.keep (stable_val d) (Keep.upS (Hu1.out.trans u)) : RdS (DValD d) 4 All W (.slice av1 a.values.length ac1) a.values))
  have Hgv := Lib.hid (fun W (u : Up w1 W) => get_v d (.slice av1 a.values.length ac1) (.slice au1 a.unknown.length ac2) a.values vn W (HVals.out _ u) ⟨_, _, _, rfl⟩)
  have Hfv := Lib.hid (fun W (u : Up w1 W) => find_v d (.slice av1 a.values.length ac1) (.slice au1 a.unknown.length ac2) a.values vn W (HVals.out _ u) ⟨_, _, _, rfl⟩)
  generalize (findV a.values vn).getD val0 = PV at *
  generalize (findV a.values vn).isSome = ok at *
  obtain ⟨pn, pb, py, ps⟩ := PV
  simp only at Hgv Hfv
  go_wp2_with fail
  refine (Hgv.out _ Hu6.out).mono ?_
  rintro e w7 ⟨s1, t1, s2, t2, s3, t3, rfl, hpd, hu7'⟩
  have Hpd := Lib.hid hpd; have Hu7 := Lib.hid (Hu6.out.trans hu7')
  clear f0 f1 a0 a1 b0 b1 v0 v1 v2 v3 hu7' hpd Hgv
  go_upto_region 8 with (fail)
  have hbp := blk_new w7 (.cells #[.int .i64 pn, .slice s1 pb.length t1, .slice s2 py.length t2, .slice s3 ps.length t3] 34) (g := w7.heap.size) rfl
  have hu8' := (Up.refl w7).alloc (.cells #[.int .i64 pn, .slice s1 pb.length t1, .slice s2 py.length t2, .slice s3 ps.length t3] 34)
  have Hpd8 := Lib.hid (stable_val d _ _ _ _ _ _ (Keep.upS hu8') Hpd.out)
  have Hu8 := Lib.hid (Hu7.out.trans hu8')
  obtain ⟨P, hP⟩ : ∃ P, w7.heap.size = P := ⟨_, rfl⟩
  rw [hP] at hbp ⊢
  generalize hw8 : w7.alloc (.cells #[.int .i64 pn, .slice s1 pb.length t1, .slice s2 py.length t2, .slice s3 ps.length t3] 34) = w8 at *
  have Hbp := Lib.hid hbp
  clear hw8 hu8' Hpd hbp
  obtain ⟨f0, f1, a0, a1, b0, b1⟩ := HC.out w8 Hu8.out
  obtain ⟨v0, v1, v2, v3⟩ := HCv.out w8 Hu8.out
  go_wp2_with fail
  refine (Hfv.out _ Hu8.out).mono ?_
  rintro e w9 ⟨s4, t4, s5, t5, s6, t6, rfl, hqd, hu9'⟩
  have Hqd := Lib.hid hqd; have Hu9 := Lib.hid (Hu8.out.trans hu9')
  have Hpd9 := Lib.hid (stable_val d _ _ _ _ _ _ (Keep.upS hu9') Hpd8.out)
  have Hbp9 := Lib.hid (hu9'.blk Hbp.out)
  clear f0 f1 a0 a1 b0 b1 v0 v1 v2 v3 hu9' hqd Hfv Hbp Hpd8
  go_upto_region 9 with (fail)
  have hbq := blk_new w9 (.cells #[.int .i64 pn, .slice s4 pb.length t4, .slice s5 py.length t5, .slice s6 ps.length t6] 34) (g := w9.heap.size) rfl
  have hu10' := (Up.refl w9).alloc (.cells #[.int .i64 pn, .slice s4 pb.length t4, .slice s5 py.length t5, .slice s6 ps.length t6] 34)
  have Hqd10 := Lib.hid (stable_val d _ _ _ _ _ _ (Keep.upS hu10') Hqd.out)
  have Hpd10 := Lib.hid (stable_val d _ _ _ _ _ _ (Keep.upS hu10') Hpd9.out)
  have hbp10 := hu10'.blk Hbp9.out
  have Hu10 := Lib.hid (Hu9.out.trans hu10')
  obtain ⟨Q, hQ⟩ : ∃ Q, w9.heap.size = Q := ⟨_, rfl⟩
  rw [hQ] at hbq ⊢
  generalize hw10 : w9.alloc (.cells #[.int .i64 pn, .slice s4 pb.length t4, .slice s5 py.length t5, .slice s6 ps.length t6] 34) = w10 at *
  have q0 : w10.cell? ⟨Q, 0, none⟩ = some (.int .i64 pn) := cell_of_row w10 _ 0 _ _ _ hbq
  have q1 : w10.cell? ⟨Q, 1, none⟩ = some (.slice s4 pb.length t4) := cell_of_row w10 _ 1 _ _ _ hbq
  have q2 : w10.cell? ⟨Q, 2, none⟩ = some (.slice s5 py.length t5) := cell_of_row w10 _ 2 _ _ _ hbq
  have q3 : w10.cell? ⟨Q, 3, none⟩ = some (.slice s6 ps.length t6) := cell_of_row w10 _ 3 _ _ _ hbq
  have r0 : w10.cell? ⟨P, 0, none⟩ = some (.int .i64 pn) := cell_of_row w10 _ 0 _ _ _ hbp10
  have r1 : w10.cell? ⟨P, 1, none⟩ = some (.slice s1 pb.length t1) := cell_of_row w10 _ 1 _ _ _ hbp10
  have r2 : w10.cell? ⟨P, 2, none⟩ = some (.slice s2 py.length t2) := cell_of_row w10 _ 2 _ _ _ hbp10
  have r3 : w10.cell? ⟨P, 3, none⟩ = some (.slice s3 ps.length t3) := cell_of_row w10 _ 3 _ _ _ hbp10
  have hzQ : Q < w10.heap.size := lt_of_block hbq
  have hzP : P < w10.heap.size := lt_of_block hbp10
  clear hw10 hu10' Hqd Hpd9 hbq hbp10 Hbp9
  go_wp2_with fail
  have huu : Up w10 ((w10.alloc (.cells #[.int .i64 pn, .slice s1 pb.length t1, .slice s2 py.length t2, .slice s3 ps.length t3] 34)).alloc (.cells #[.int .i64 pn, .slice s4 pb.length t4, .slice s5 py.length t5, .slice s6 ps.length t6] 34)) := ((Up.refl w10).alloc _).alloc _
  refine (same_b (d + 1) (.mk [(pn, pb, py, ps)] []) _ _ _ _ _ (one_body (t := 34) (blk_old _ (blk_new w10 _ rfl)) (stable_val d _ _ _ _ _ _ (Keep.upS huu) Hpd10.out)) (one_body (t := 34) (blk_new (w10.alloc _) _ (by simp)) (stable_val d _ _ _ _ _ _ (Keep.upS huu) Hqd10.out))).mono ?_
  rintro e w11 ⟨rfl, hu11'⟩
  have Hu11 := Lib.hid (Hu10.out.trans (huu.trans hu11'))
  clear q0 q1 q2 q3 r0 r1 r2 r3 hzQ hzP huu hu11' Hpd10 Hqd10
  obtain ⟨f0, f1, a0, a1, b0, b1⟩ := HC.out w11 Hu11.out
  go_wp2_with fail
  refine (Hwr.out _ Hu11.out).mono ?_
  rintro e w12 ⟨rfl, hu12'⟩
  have Hu12 := Lib.hid (Hu11.out.trans hu12')
  clear f0 f1 a0 a1 b0 b1 hu12' Hwr
  by_cases hw0 : WA = 0
  case neg =>
    clear HWA
    go_wp2_with fail
    go_ret
    exact ⟨rfl, Hu1.out.trans Hu12.out⟩
  subst hw0
  obtain ⟨hright, hm0, hm1, hka⟩ := wrongA_zero HWA.out
  obtain ⟨mi, rfl⟩ : ∃ mi : Nat, msg = mi := ⟨msg.toNat, by omega⟩
  have hmi : mi < f.msgs.length := by omega
  rw [wrongB, Int.toNat_natCast, List.getElem?_eq_getElem hmi] at hka
  obtain ⟨ra1, ra2, ra3⟩ := right_vals hka
  have hmr := right_msg hright f.msgs[mi] (List.getElem_mem hmi)
  have h16 := (msg_field hmr).1
  have Hch := Lib.hid (show ∀ z ∈ f.msgs[mi].fields, 0 ≤ z.choice from fun z hz => (choice_16 hmr hz).1)
  have Hty := Lib.hid (fun (k : Nat) (hk : k < f.msgs[mi].fields.length) => (field_facts ((msg_field hmr).2.2 k hk)).2.2.2.1)
  obtain ⟨vm, ve, hfe, hm', _⟩ := id Hf.out
  simp only [Value.agg.injEq, Array.mk.injEq, List.cons.injEq, and_true] at hfe
  obtain ⟨rfl, rfl⟩ := hfe
  obtain ⟨mb, mo, cs, hma, _, _, hcs, hd⟩ := hm'.at hmi
  subst hma
  obtain ⟨vf, vb, hd, hfs, hbs, hnm⟩ := hd
  subst hd
  obtain ⟨fa, fc, rfl, _, _⟩ := hfs.val
  obtain ⟨ba, bc, rfl, _, _⟩ := hbs.val
  have huw := Hu1.out.trans Hu12.out
  have s0 := huw.cell_some (hcs 0 _ rfl); have s1' := huw.cell_some (hcs 1 _ rfl); have s2' := huw.cell_some (hcs 2 _ rfl)
  simp only [Nat.add_zero] at s0
  have Hfs := Lib.hid hfs; have Hra1 := Lib.hid ra1; have Hright := Lib.hid hright
  have hal : a.values.length ≤ 16 := by omega
  clear hcs hm' hfs hbs hnm ra1 ra3 hka hmr h16 ra2 hright huw
  obtain ⟨f0, f1, _, _, _, _⟩ := HC.out w12 Hu12.out
  have hm2 : (mi : Int) < (f.msgs.length : Int) := by omega
  generalize f.msgs[mi] = m at *
  go_upto_region 14 with (fail)
  have hbm := blk_new w12 (.cells #[.string ⟨m.name.toArray⟩, .slice fa m.fields.length fc, .slice ba m.barred.length bc] 48) (g := w12.heap.size) rfl
  have hu13 := Hu12.out.trans ((Up.refl w12).alloc (.cells #[.string ⟨m.name.toArray⟩, .slice fa m.fields.length fc, .slice ba m.barred.length bc] 48))
  obtain ⟨M, hM⟩ : ∃ M, w12.heap.size = M := ⟨_, rfl⟩
  rw [hM] at hbm ⊢
  generalize hw13 : w12.alloc (.cells #[.string ⟨m.name.toArray⟩, .slice fa m.fields.length fc, .slice ba m.barred.length bc] 48) = w13 at *
  have Hu13 := Lib.hid hu13
  have HM := Lib.hid (fun W (u : Up w13 W) => (⟨cell_of_row W _ 0 _ _ _ (u.blk hbm), cell_of_row W _ 1 _ _ _ (u.blk hbm), cell_of_row W _ 2 _ _ _ (u.blk hbm)⟩ : W.cell? ⟨M, 0, none⟩ = some (.string ⟨m.name.toArray⟩) ∧ W.cell? ⟨M, 1, none⟩ = some (.slice fa m.fields.length fc) ∧ W.cell? ⟨M, 2, none⟩ = some (.slice ba m.barred.length bc)))
  clear hw13 hbm hu13 s0 s1' s2' f0 f1
  have Hk := Lib.hid (fun W (u : Up w13 W) => field_any (.string ⟨m.name.toArray⟩) (.slice fa m.fields.length fc) (.slice ba m.barred.length bc) m.fields vn W ⟨_, rfl⟩ ⟨_, _, _, rfl⟩ (Hfs.out.up stable_fld (Hu1.out.trans (Hu13.out.trans u))))
  have Hp := Lib.hid (fun W (u : Up w13 W) => field_r (.string ⟨m.name.toArray⟩) (.slice fa m.fields.length fc) (.slice ba m.barred.length bc) m.fields vn W ⟨_, rfl⟩ ⟨_, _, _, rfl⟩ (Hfs.out.up stable_fld (Hu1.out.trans (Hu13.out.trans u))))
  obtain ⟨m0, m1, m2⟩ := HM.out w13 (Up.refl _)
  obtain ⟨v0, v1, v2, v3⟩ := HCv.out w13 Hu13.out
  go_wp2_with fail
  refine (Hk.out _ (Up.refl _)).mono ?_
  rintro e w14 ⟨rfl, hu14⟩
  clear m0 m1 m2 v0 v1 v2 v3
  obtain ⟨m0, m1, m2⟩ := HM.out w14 hu14
  obtain ⟨v0, v1, v2, v3⟩ := HCv.out w14 (Hu13.out.trans hu14)
  have Hu14 := Lib.hid hu14
  clear hu14
  go_wp2_with fail
  refine (Hp.out _ Hu14.out).mono ?_
  rintro e w15 ⟨⟨p, rfl, hp0, hpk⟩, hu15'⟩
  have hu15 := Hu14.out.trans hu15'
  clear m0 m1 m2 v0 v1 v2 v3 Hk Hp
  obtain ⟨m0, m1, m2⟩ := HM.out w15 hu15
  obtain ⟨v0, v1, v2, v3⟩ := HCv.out w15 (Hu13.out.trans hu15)
  have Hu15 := Lib.hid hu15
  clear hu15 hu15'
  obtain ⟨hi, hfd⟩ | ⟨j, hj, hi, hfd⟩ := idxP_cases (fun z : Fld => z.number == vn) m.fields
  · obtain rfl := hp0 (by omega)
    have HU := Lib.hid (Hu1.out.trans (Hu13.out.trans Hu15.out))
    clear hfd hp0 hpk
    generalize idxP (fun z : Fld => z.number == vn) m.fields = I at *
    subst hi
    go_upto_region 16 with (fail)
    go_quiet (fail)
    go_upto_region 18 with (fail)
    go_quiet (fail)
    go_wp2_with fail
    go_ret
    exact ⟨rfl, (HU.out.drewN _).drewN _⟩
  · obtain ⟨xb, xo, xc, hfe, rfl, hxa⟩ := hpk j hj hi
    simp only [Value.slice.injEq] at hfe
    obtain ⟨rfl, _, rfl⟩ := hfe
    have HU := Lib.hid (Hu1.out.trans (Hu13.out.trans Hu15.out))
    have Hty' := Lib.hid (Hty.out j hj)
    have HFn := Lib.hid (show fldN m.fields vn = some m.fields[j] from hfd)
    have j1 : (j : Int) < (m.fields.length : Int) := by omega
    have j0 : (0 : Int) ≤ (j : Int) := by omega
    clear hfd hp0 hpk
    generalize m.fields[j] = F at *
    generalize idxP (fun z : Fld => z.number == vn) m.fields = I at *
    subst hi
    obtain ⟨_, ⟨c0, c1, c2, c3, c4, c5⟩, _⟩ := id hxa
    have Hxa := Lib.hid hxa
    clear hxa
    go_upto_region 16 with (fail)
    go_quiet (fail)
    go_upto_region 18 with (fail)
    generalize hw16 : w15.drewN nq = w16 at *
    have hu16 : Up w13 w16 := by rw [← hw16]; exact Hu15.out.drewN _
    have Hxa' : Hid (FldAt w16 xb (xo + j * 6) F) := Lib.hid (by rw [← hw16]; exact Hxa.out.up ((Up.refl w15).drewN _))
    clear hw16 m0 m1 m2 v0 v1 v2 v3 c0 c1 c2 c3 c4 c5 HU Hu15 Hxa
    have hu116 := Hu13.out.trans hu16
    have hu016 := Hu1.out.trans hu116
    have hks : KV w16 w.heap.size M (.slice (some ⟨mb, mo, none⟩) f.msgs.length mc) (.slice ea f.enums.length ec) (.slice av1 a.values.length ac1) (.slice au1 a.unknown.length ac2) (.int .i64 vn) (.slice p1 vb2.length g1) (.slice p2 vy2.length g2) (.slice p3 vs2.length g3) (.string ⟨m.name.toArray⟩) (.slice (some ⟨xb, xo, none⟩) m.fields.length fc) (.slice ba m.barred.length bc) w16 := by
      obtain ⟨e0, e1, e2, e3, _, _⟩ := HC.out w16 hu116
      obtain ⟨e4, e5, e6, e7⟩ := HCv.out w16 hu116
      obtain ⟨e8, e9, e10⟩ := HM.out w16 hu16
      exact ⟨Up.refl _, e0, e1, e2, e3, e4, e5, e6, e7, e8, e9, e10⟩
    have Hks := Lib.hid hks
    have HU := Lib.hid hu016
    have Hwv := Lib.hid (fun wx (u : Up w16 wx) => (show Calls Tryd.prog 18 #[.agg #[.slice (some ⟨mb, mo, none⟩) f.msgs.length mc, .slice ea f.enums.length ec], .pointer (some ⟨xb, xo + j * 6, none⟩), .agg #[.int .i64 vn, .slice p1 vb2.length g1, .slice p2 vy2.length g2, .slice p3 vs2.length g3], .int .i64 1] wx fun e w' => e = .returned (.int .i64 (wrongVF (wrongB f 11) f F (vn, vb2, vy2, vs2))) ∧ Up wx w' from
      value_r 11 d f (bodyr_c f Hright.out 11 (by omega) d) (by omega) F (vn, vb2, vy2, vs2) _ xb (xo + j * 6) p1 p2 p3 g1 g2 g3 wx (Hf.out.up (HU.out.trans u)) (Hxa'.out.up u) (stable_val d _ _ _ _ _ _ (Keep.upS (HU.out.trans u)) Hv.out) Hty'.out))
    have Hs1 := Lib.hid (fun wx (u : Up w16 wx) => (set_v d (S := All) (.string ⟨m.name.toArray⟩) (.slice (some ⟨xb, xo, none⟩) m.fields.length fc) (.slice ba m.barred.length bc) (.slice av1 a.values.length ac1) (.slice au1 a.unknown.length ac2) m.fields a.values (vn, vb2, vy2, vs2) p1 p2 p3 g1 g2 g3 wx ⟨_, rfl⟩ ⟨_, _, _, rfl⟩ ⟨_, _, _, rfl⟩ (Hfs.out.up stable_fld (HU.out.trans u)) (Hav.out.up (stable_val d) (HU.out.trans u)) Hra1.out (by omega) (stable_val d _ _ _ _ _ _ (Keep.upS (HU.out.trans u)) Hv.out)).mono (R' := fun e w' => ∃ vv', e = .returned (.agg #[vv', .slice au1 a.unknown.length ac2]) ∧ DBodF (d + 1) All w' (.mk (setV m.fields a.values (vn, vb2, vy2, vs2)) a.unknown) [vv', .slice au1 a.unknown.length ac2] ∧ Up wx w') (fun e w' ⟨vv', h1, h2, h3⟩ => ⟨vv', h1, ⟨_, _, rfl, h2.keep (stable_val d) Keep.all, Hau.out.up stable_recz (HU.out.trans (u.trans h3)), by
        unfold BodSz; show (setV m.fields a.values (vn, vb2, vy2, vs2)).length * 80 ≤ _ ∧ a.unknown.length * 48 ≤ _
        have h1 := set_len m.fields a.values (vn, vb2, vy2, vs2); have h2 := Haz.out; unfold BodSz at h2; omega⟩, h3⟩))
    have Hs2 := Lib.hid (fun wx (u : Up w16 wx) => (setr_v d (S := All) (.string ⟨m.name.toArray⟩) (.slice (some ⟨xb, xo, none⟩) m.fields.length fc) (.slice ba m.barred.length bc) (.slice av1 a.values.length ac1) (.slice au1 a.unknown.length ac2) m.fields a.values (vn, vb2, vy2, vs2) F p1 p2 p3 g1 g2 g3 wx ⟨_, rfl⟩ ⟨_, _, _, rfl⟩ ⟨_, _, _, rfl⟩ (Hfs.out.up stable_fld (HU.out.trans u)) (Hav.out.up (stable_val d) (HU.out.trans u)) Hra1.out (by omega) HFn.out Hch.out (stable_val d _ _ _ _ _ _ (Keep.upS (HU.out.trans u)) Hv.out)).mono (R' := fun e w' => ∃ vv', e = .returned (.agg #[vv', .slice au1 a.unknown.length ac2]) ∧ DBodF (d + 1) All w' (.mk (setV m.fields a.values (vn, vb2, vy2, vs2)) a.unknown) [vv', .slice au1 a.unknown.length ac2] ∧ Up wx w') (fun e w' ⟨vv', h1, h2, h3⟩ => ⟨vv', h1, ⟨_, _, rfl, h2.keep (stable_val d) Keep.all, Hau.out.up stable_recz (HU.out.trans (u.trans h3)), by
        unfold BodSz; show (setV m.fields a.values (vn, vb2, vy2, vs2)).length * 80 ≤ _ ∧ a.unknown.length * 48 ≤ _
        have h1 := set_len m.fields a.values (vn, vb2, vy2, vs2); have h2 := Haz.out; unfold BodSz at h2; omega⟩, h3⟩))
    clear hks hu16 hu116 hu016
    generalize wrongVF (wrongB f 11) f F (vn, vb2, vy2, vs2) = WV at *
    generalize Bod.mk (setV m.fields a.values (vn, vb2, vy2, vs2)) a.unknown = SB2 at *
    have DD : Hid (∀ W, Up w16 W → W.cell? ⟨w.heap.size, 0, none⟩ = some (.slice (some ⟨mb, mo, none⟩) f.msgs.length mc) ∧ W.cell? ⟨w.heap.size, 1, none⟩ = some (.slice ea f.enums.length ec) ∧ W.cell? ⟨w.heap.size + 1, 0, none⟩ = some (.slice av1 a.values.length ac1) ∧ W.cell? ⟨w.heap.size + 1, 1, none⟩ = some (.slice au1 a.unknown.length ac2) ∧ W.cell? ⟨w.heap.size + 1 + 1 + 1, 0, none⟩ = some (.int .i64 vn) ∧ W.cell? ⟨w.heap.size + 1 + 1 + 1, 1, none⟩ = some (.slice p1 vb2.length g1) ∧ W.cell? ⟨w.heap.size + 1 + 1 + 1, 2, none⟩ = some (.slice p2 vy2.length g2) ∧ W.cell? ⟨w.heap.size + 1 + 1 + 1, 3, none⟩ = some (.slice p3 vs2.length g3) ∧ W.cell? ⟨M, 0, none⟩ = some (.string ⟨m.name.toArray⟩) ∧ W.cell? ⟨M, 1, none⟩ = some (.slice (some ⟨xb, xo, none⟩) m.fields.length fc) ∧ W.cell? ⟨M, 2, none⟩ = some (.slice ba m.barred.length bc)) := Lib.hid (fun W u => (KV.up Hks.out u).2)
    have DD : Hid (∀ W, Up w16 W → W.cell? ⟨w.heap.size, 0, none⟩ = some (.slice (some ⟨mb, mo, none⟩) f.msgs.length mc) ∧ W.cell? ⟨w.heap.size, 1, none⟩ = some (.slice ea f.enums.length ec) ∧ W.cell? ⟨w.heap.size + 1, 0, none⟩ = some (.slice av1 a.values.length ac1) ∧ W.cell? ⟨w.heap.size + 1, 1, none⟩ = some (.slice au1 a.unknown.length ac2) ∧ W.cell? ⟨w.heap.size + 1 + 1 + 1, 0, none⟩ = some (.int .i64 vn) ∧ W.cell? ⟨w.heap.size + 1 + 1 + 1, 1, none⟩ = some (.slice p1 vb2.length g1) ∧ W.cell? ⟨w.heap.size + 1 + 1 + 1, 2, none⟩ = some (.slice p2 vy2.length g2) ∧ W.cell? ⟨w.heap.size + 1 + 1 + 1, 3, none⟩ = some (.slice p3 vs2.length g3) ∧ W.cell? ⟨M, 0, none⟩ = some (.string ⟨m.name.toArray⟩) ∧ W.cell? ⟨M, 1, none⟩ = some (.slice (some ⟨xb, xo, none⟩) m.fields.length fc) ∧ W.cell? ⟨M, 2, none⟩ = some (.slice ba m.barred.length bc)) := Lib.hid (fun W u => (KV.up Hks.out u).2)
    have DD : Hid (∀ W, Up w16 W → W.cell? ⟨w.heap.size, 0, none⟩ = some (.slice (some ⟨mb, mo, none⟩) f.msgs.length mc) ∧ W.cell? ⟨w.heap.size, 1, none⟩ = some (.slice ea f.enums.length ec) ∧ W.cell? ⟨w.heap.size + 1, 0, none⟩ = some (.slice av1 a.values.length ac1) ∧ W.cell? ⟨w.heap.size + 1, 1, none⟩ = some (.slice au1 a.unknown.length ac2) ∧ W.cell? ⟨w.heap.size + 1 + 1 + 1, 0, none⟩ = some (.int .i64 vn) ∧ W.cell? ⟨w.heap.size + 1 + 1 + 1, 1, none⟩ = some (.slice p1 vb2.length g1) ∧ W.cell? ⟨w.heap.size + 1 + 1 + 1, 2, none⟩ = some (.slice p2 vy2.length g2) ∧ W.cell? ⟨w.heap.size + 1 + 1 + 1, 3, none⟩ = some (.slice p3 vs2.length g3) ∧ W.cell? ⟨M, 0, none⟩ = some (.string ⟨m.name.toArray⟩) ∧ W.cell? ⟨M, 1, none⟩ = some (.slice (some ⟨xb, xo, none⟩) m.fields.length fc) ∧ W.cell? ⟨M, 2, none⟩ = some (.slice ba m.barred.length bc)) := Lib.hid (fun W u => (KV.up Hks.out u).2)
    have DD : Hid (∀ W, Up w16 W → W.cell? ⟨w.heap.size, 0, none⟩ = some (.slice (some ⟨mb, mo, none⟩) f.msgs.length mc) ∧ W.cell? ⟨w.heap.size, 1, none⟩ = some (.slice ea f.enums.length ec) ∧ W.cell? ⟨w.heap.size + 1, 0, none⟩ = some (.slice av1 a.values.length ac1) ∧ W.cell? ⟨w.heap.size + 1, 1, none⟩ = some (.slice au1 a.unknown.length ac2) ∧ W.cell? ⟨w.heap.size + 1 + 1 + 1, 0, none⟩ = some (.int .i64 vn) ∧ W.cell? ⟨w.heap.size + 1 + 1 + 1, 1, none⟩ = some (.slice p1 vb2.length g1) ∧ W.cell? ⟨w.heap.size + 1 + 1 + 1, 2, none⟩ = some (.slice p2 vy2.length g2) ∧ W.cell? ⟨w.heap.size + 1 + 1 + 1, 3, none⟩ = some (.slice p3 vs2.length g3) ∧ W.cell? ⟨M, 0, none⟩ = some (.string ⟨m.name.toArray⟩) ∧ W.cell? ⟨M, 1, none⟩ = some (.slice (some ⟨xb, xo, none⟩) m.fields.length fc) ∧ W.cell? ⟨M, 2, none⟩ = some (.slice ba m.barred.length bc)) := Lib.hid (fun W u => (KV.up Hks.out u).2)
    have DD : Hid (∀ W, Up w16 W → W.cell? ⟨w.heap.size, 0, none⟩ = some (.slice (some ⟨mb, mo, none⟩) f.msgs.length mc) ∧ W.cell? ⟨w.heap.size, 1, none⟩ = some (.slice ea f.enums.length ec) ∧ W.cell? ⟨w.heap.size + 1, 0, none⟩ = some (.slice av1 a.values.length ac1) ∧ W.cell? ⟨w.heap.size + 1, 1, none⟩ = some (.slice au1 a.unknown.length ac2) ∧ W.cell? ⟨w.heap.size + 1 + 1 + 1, 0, none⟩ = some (.int .i64 vn) ∧ W.cell? ⟨w.heap.size + 1 + 1 + 1, 1, none⟩ = some (.slice p1 vb2.length g1) ∧ W.cell? ⟨w.heap.size + 1 + 1 + 1, 2, none⟩ = some (.slice p2 vy2.length g2) ∧ W.cell? ⟨w.heap.size + 1 + 1 + 1, 3, none⟩ = some (.slice p3 vs2.length g3) ∧ W.cell? ⟨M, 0, none⟩ = some (.string ⟨m.name.toArray⟩) ∧ W.cell? ⟨M, 1, none⟩ = some (.slice (some ⟨xb, xo, none⟩) m.fields.length fc) ∧ W.cell? ⟨M, 2, none⟩ = some (.slice ba m.barred.length bc)) := Lib.hid (fun W u => (KV.up Hks.out u).2)
    have DD : Hid (∀ W, Up w16 W → W.cell? ⟨w.heap.size, 0, none⟩ = some (.slice (some ⟨mb, mo, none⟩) f.msgs.length mc) ∧ W.cell? ⟨w.heap.size, 1, none⟩ = some (.slice ea f.enums.length ec) ∧ W.cell? ⟨w.heap.size + 1, 0, none⟩ = some (.slice av1 a.values.length ac1) ∧ W.cell? ⟨w.heap.size + 1, 1, none⟩ = some (.slice au1 a.unknown.length ac2) ∧ W.cell? ⟨w.heap.size + 1 + 1 + 1, 0, none⟩ = some (.int .i64 vn) ∧ W.cell? ⟨w.heap.size + 1 + 1 + 1, 1, none⟩ = some (.slice p1 vb2.length g1) ∧ W.cell? ⟨w.heap.size + 1 + 1 + 1, 2, none⟩ = some (.slice p2 vy2.length g2) ∧ W.cell? ⟨w.heap.size + 1 + 1 + 1, 3, none⟩ = some (.slice p3 vs2.length g3) ∧ W.cell? ⟨M, 0, none⟩ = some (.string ⟨m.name.toArray⟩) ∧ W.cell? ⟨M, 1, none⟩ = some (.slice (some ⟨xb, xo, none⟩) m.fields.length fc) ∧ W.cell? ⟨M, 2, none⟩ = some (.slice ba m.barred.length bc)) := Lib.hid (fun W u => (KV.up Hks.out u).2)
    rcases (show WV = 0 ∨ WV = 2 ∨ (WV ≠ 0 ∧ WV ≠ 2) by omega) with rfl | rfl | ⟨hw0, hw2⟩
    · refine wp_region_held_drew (S := fun w' => w'.cell? ⟨w.heap.size, 0, none⟩ = some (.slice (some ⟨mb, mo, none⟩) f.msgs.length mc) ∧ w'.cell? ⟨w.heap.size, 1, none⟩ = some (.slice ea f.enums.length ec) ∧ w'.cell? ⟨w.heap.size + 1, 0, none⟩ = some (.slice av1 a.values.length ac1) ∧ w'.cell? ⟨w.heap.size + 1, 1, none⟩ = some (.slice au1 a.unknown.length ac2) ∧ w'.cell? ⟨w.heap.size + 1 + 1 + 1, 0, none⟩ = some (.int .i64 vn) ∧ w'.cell? ⟨w.heap.size + 1 + 1 + 1, 1, none⟩ = some (.slice p1 vb2.length g1) ∧ w'.cell? ⟨w.heap.size + 1 + 1 + 1, 2, none⟩ = some (.slice p2 vy2.length g2) ∧ w'.cell? ⟨w.heap.size + 1 + 1 + 1, 3, none⟩ = some (.slice p3 vs2.length g3) ∧ w'.cell? ⟨M, 0, none⟩ = some (.string ⟨m.name.toArray⟩) ∧ w'.cell? ⟨M, 1, none⟩ = some (.slice (some ⟨xb, xo, none⟩) m.fields.length fc) ∧ w'.cell? ⟨M, 2, none⟩ = some (.slice ba m.barred.length bc)) (by kernel_rfl) (DD.out _ (Up.refl w16).drew) (fun hHeld => ?_)
      have hu := (Up.refl w16).drew
      have hHeld := DD.out _ hu
      refine wpAnyH_take (i := 0) (v := ?_) (by simp only [List.getElem?_toArray, List.getElem?_cons_zero] <;> rfl) (by kernel_rfl) (by kernel_rfl) (by kernel_rfl) (fun _ _ _ h => by exact h) (Or.inl ⟨by rfl, ?_⟩) (by assumption) ?_
      rotate_left
      · (intro w hSw; (try dsimp only at hSw); go_simp)
        try with_reducible rfl
      rotate_left
      try simp only [Act.put, List.setIfInBounds_toArray, List.set_cons_zero, List.set_cons_succ]
      refine wpAnyH_take (i := 1) (v := ?_) (by simp only [List.getElem?_toArray, List.getElem?_cons_succ, List.getElem?_cons_zero] <;> rfl) (by kernel_rfl) (by kernel_rfl) (by kernel_rfl) (fun _ _ _ h => by exact h) (Or.inl ⟨by rfl, ?_⟩) (by assumption) ?_
      rotate_left
      · (intro w hSw; (try dsimp only at hSw); go_simp)
        try with_reducible rfl
      rotate_left
      try simp only [Act.put, List.setIfInBounds_toArray, List.set_cons_zero, List.set_cons_succ]
      refine wpAnyH_take (i := 2) (v := ?_) (by simp only [List.getElem?_toArray, List.getElem?_cons_succ, List.getElem?_cons_zero] <;> rfl) (by kernel_rfl) (by kernel_rfl) (by kernel_rfl) (fun _ _ _ h => by exact h) (Or.inl ⟨by rfl, ?_⟩) (by assumption) ?_
      rotate_left
      · (intro w hSw; (try dsimp only at hSw); go_simp)
        try with_reducible rfl
      rotate_left
      try simp only [Act.put, List.setIfInBounds_toArray, List.set_cons_zero, List.set_cons_succ]
      refine wpAnyH_take (i := 3) (v := ?_) (by simp only [List.getElem?_toArray, List.getElem?_cons_succ, List.getElem?_cons_zero] <;> rfl) (by kernel_rfl) (by kernel_rfl) (by kernel_rfl) (fun _ _ _ h => by exact h) (Or.inl ⟨by rfl, ?_⟩) (by assumption) ?_
      rotate_left
      · (intro w hSw; (try dsimp only at hSw); go_simp)
        try with_reducible rfl
      rotate_left
      try simp only [Act.put, List.setIfInBounds_toArray, List.set_cons_zero, List.set_cons_succ]
      refine wpAnyH_take (i := 4) (v := ?_) (by simp only [List.getElem?_toArray, List.getElem?_cons_succ, List.getElem?_cons_zero] <;> rfl) (by kernel_rfl) (by kernel_rfl) (by kernel_rfl) (fun _ _ _ h => by exact h) (Or.inl ⟨by rfl, ?_⟩) (by assumption) ?_
      rotate_left
      · (intro w hSw; (try dsimp only at hSw); go_simp)
        try with_reducible rfl
      rotate_left
      try simp only [Act.put, List.setIfInBounds_toArray, List.set_cons_zero, List.set_cons_succ]
      refine wpAnyH_take (i := 5) (v := ?_) (by simp only [List.getElem?_toArray, List.getElem?_cons_succ, List.getElem?_cons_zero] <;> rfl) (by kernel_rfl) (by kernel_rfl) (by kernel_rfl) (fun _ _ _ h => by exact h) (Or.inl ⟨by rfl, ?_⟩) (by assumption) ?_
      rotate_left
      · (intro w hSw; (try dsimp only at hSw); go_simp)
        try with_reducible rfl
      rotate_left
      try simp only [Act.put, List.setIfInBounds_toArray, List.set_cons_zero, List.set_cons_succ]
      refine wpAnyH_ready (rs := [6]) (by kernel_rfl) (by simp) ?_
      refine AllReadyH.cons (by simp only [List.getElem?_toArray, List.getElem?_cons_succ, List.getElem?_cons_zero] <;> rfl) (fun K hK => ?_) AllReadyH.nil
      go_simp
      refine (Hwv.out _ hu).mono ?_
      rintro e wn6 ⟨rfl, hun⟩
      have hu := hu.trans hun
      refine hK.out _ _ (DD.out _ hu) (fun hHeld => ?_)
      clear hK K hHeld
      have hHeld := DD.out _ hu
      try simp only [Act.put, List.setIfInBounds_toArray, List.set_cons_zero, List.set_cons_succ]
      refine wpAnyH_take (i := 7) (v := ?_) (by simp only [List.getElem?_toArray, List.getElem?_cons_succ, List.getElem?_cons_zero] <;> rfl) (by kernel_rfl) (by kernel_rfl) (by kernel_rfl) (fun _ _ _ h => by exact h) (Or.inl ⟨by rfl, ?_⟩) (by assumption) ?_
      rotate_left
      · (intro w hSw; (try dsimp only at hSw); go_simp)
        try with_reducible rfl
      rotate_left
      try simp only [Act.put, List.setIfInBounds_toArray, List.set_cons_zero, List.set_cons_succ]
      refine wpAnyH_take (i := 8) (v := ?_) (by simp only [List.getElem?_toArray, List.getElem?_cons_succ, List.getElem?_cons_zero] <;> rfl) (by kernel_rfl) (by kernel_rfl) (by kernel_rfl) (fun _ _ _ h => by exact h) (Or.inl ⟨by rfl, ?_⟩) (by assumption) ?_
      rotate_left
      · (intro w hSw; (try dsimp only at hSw); go_simp)
        try with_reducible rfl
      rotate_left
      try simp only [Act.put, List.setIfInBounds_toArray, List.set_cons_zero, List.set_cons_succ]
      refine wpAnyH_take (i := 9) (v := _) (by simp only [List.getElem?_toArray, List.getElem?_cons_succ, List.getElem?_cons_zero] <;> rfl) (by kernel_rfl) (by kernel_rfl) (by kernel_rfl) (fun _ _ _ h => by exact h) (Or.inr ⟨by rfl, rfl⟩) (by assumption) ?_
      try simp only [Act.put, List.setIfInBounds_toArray, List.set_cons_zero, List.set_cons_succ]
      refine wpAnyH_take (i := 10) (v := _) (by simp only [List.getElem?_toArray, List.getElem?_cons_succ, List.getElem?_cons_zero] <;> rfl) (by kernel_rfl) (by kernel_rfl) (by kernel_rfl) (fun _ _ _ h => by exact h) (Or.inr ⟨by rfl, rfl⟩) (by assumption) ?_
      try simp only [Act.put, List.setIfInBounds_toArray, List.set_cons_zero, List.set_cons_succ]
      refine wpAnyH_take (i := 11) (v := _) (by simp only [List.getElem?_toArray, List.getElem?_cons_succ, List.getElem?_cons_zero] <;> rfl) (by kernel_rfl) (by kernel_rfl) (by kernel_rfl) (fun _ _ _ h => by exact h) (Or.inr ⟨by rfl, rfl⟩) (by assumption) ?_
      try simp only [Act.put, List.setIfInBounds_toArray, List.set_cons_zero, List.set_cons_succ]
      refine wpAnyH_take (i := 12) (v := _) (by simp only [List.getElem?_toArray, List.getElem?_cons_succ, List.getElem?_cons_zero] <;> rfl) (by kernel_rfl) (by kernel_rfl) (by kernel_rfl) (fun _ _ _ h => by exact h) (Or.inr ⟨by rfl, rfl⟩) (by assumption) ?_
      try simp only [Act.put, List.setIfInBounds_toArray, List.set_cons_zero, List.set_cons_succ]
      refine wpAnyH_take (i := 13) (v := _) (by simp only [List.getElem?_toArray, List.getElem?_cons_succ, List.getElem?_cons_zero] <;> rfl) (by kernel_rfl) (by kernel_rfl) (by kernel_rfl) (fun _ _ _ h => by exact h) (Or.inr ⟨by rfl, rfl⟩) (by assumption) ?_
      try simp only [Act.put, List.setIfInBounds_toArray, List.set_cons_zero, List.set_cons_succ]
      refine wpAnyH_take (i := 14) (v := ?_) (by simp only [List.getElem?_toArray, List.getElem?_cons_succ, List.getElem?_cons_zero] <;> rfl) (by kernel_rfl) (by kernel_rfl) (by kernel_rfl) (fun _ _ _ h => by exact h) (Or.inl ⟨by rfl, ?_⟩) (by assumption) ?_
      rotate_left
      · (intro w hSw; (try dsimp only at hSw); go_simp)
        try with_reducible rfl
      rotate_left
      try simp only [Act.put, List.setIfInBounds_toArray, List.set_cons_zero, List.set_cons_succ]
      refine wpAnyH_take (i := 15) (v := ?_) (by simp only [List.getElem?_toArray, List.getElem?_cons_succ, List.getElem?_cons_zero] <;> rfl) (by kernel_rfl) (by kernel_rfl) (by kernel_rfl) (fun _ _ _ h => by exact h) (Or.inl ⟨by rfl, ?_⟩) (by assumption) ?_
      rotate_left
      · (intro w hSw; (try dsimp only at hSw); go_simp)
        try with_reducible rfl
      rotate_left
      try simp only [Act.put, List.setIfInBounds_toArray, List.set_cons_zero, List.set_cons_succ]
      refine wpAnyH_take (i := 16) (v := ?_) (by simp only [List.getElem?_toArray, List.getElem?_cons_succ, List.getElem?_cons_zero] <;> rfl) (by kernel_rfl) (by kernel_rfl) (by kernel_rfl) (fun _ _ _ h => by exact h) (Or.inl ⟨by rfl, ?_⟩) (by assumption) ?_
      rotate_left
      · (intro w hSw; (try dsimp only at hSw); go_simp)
        try with_reducible rfl
      rotate_left
      try simp only [Act.put, List.setIfInBounds_toArray, List.set_cons_zero, List.set_cons_succ]
      refine wpAnyH_take (i := 17) (v := ?_) (by simp only [List.getElem?_toArray, List.getElem?_cons_succ, List.getElem?_cons_zero] <;> rfl) (by kernel_rfl) (by kernel_rfl) (by kernel_rfl) (fun _ _ _ h => by exact h) (Or.inl ⟨by rfl, ?_⟩) (by assumption) ?_
      rotate_left
      · (intro w hSw; (try dsimp only at hSw); go_simp)
        try with_reducible rfl
      rotate_left
      try simp only [Act.put, List.setIfInBounds_toArray, List.set_cons_zero, List.set_cons_succ]
      refine wpAnyH_take (i := 18) (v := ?_) (by simp only [List.getElem?_toArray, List.getElem?_cons_succ, List.getElem?_cons_zero] <;> rfl) (by kernel_rfl) (by kernel_rfl) (by kernel_rfl) (fun _ _ _ h => by exact h) (Or.inl ⟨by rfl, ?_⟩) (by assumption) ?_
      rotate_left
      · (intro w hSw; (try dsimp only at hSw); go_simp)
        try with_reducible rfl
      rotate_left
      try simp only [Act.put, List.setIfInBounds_toArray, List.set_cons_zero, List.set_cons_succ]
      refine wpAnyH_take (i := 19) (v := ?_) (by simp only [List.getElem?_toArray, List.getElem?_cons_succ, List.getElem?_cons_zero] <;> rfl) (by kernel_rfl) (by kernel_rfl) (by kernel_rfl) (fun _ _ _ h => by exact h) (Or.inl ⟨by rfl, ?_⟩) (by assumption) ?_
      rotate_left
      · (intro w hSw; (try dsimp only at hSw); go_simp)
        try with_reducible rfl
      rotate_left
      try simp only [Act.put, List.setIfInBounds_toArray, List.set_cons_zero, List.set_cons_succ]
      refine wpAnyH_take (i := 21) (v := ?_) (by simp only [List.getElem?_toArray, List.getElem?_cons_succ, List.getElem?_cons_zero] <;> rfl) (by kernel_rfl) (by kernel_rfl) (by kernel_rfl) (fun _ _ _ h => by exact h) (Or.inl ⟨by rfl, ?_⟩) (by assumption) ?_
      rotate_left
      · (intro w hSw; (try dsimp only at hSw); go_simp)
        try with_reducible rfl
      rotate_left
      try simp only [Act.put, List.setIfInBounds_toArray, List.set_cons_zero, List.set_cons_succ]
      refine wpAnyH_take (i := 22) (v := ?_) (by simp only [List.getElem?_toArray, List.getElem?_cons_succ, List.getElem?_cons_zero] <;> rfl) (by kernel_rfl) (by kernel_rfl) (by kernel_rfl) (fun _ _ _ h => by exact h) (Or.inl ⟨by rfl, ?_⟩) (by assumption) ?_
      rotate_left
      · (intro w hSw; (try dsimp only at hSw); go_simp)
        try with_reducible rfl
      rotate_left
      try simp only [Act.put, List.setIfInBounds_toArray, List.set_cons_zero, List.set_cons_succ]
      refine wpAnyH_take (i := 23) (v := ?_) (by simp only [List.getElem?_toArray, List.getElem?_cons_succ, List.getElem?_cons_zero] <;> rfl) (by kernel_rfl) (by kernel_rfl) (by kernel_rfl) (fun _ _ _ h => by exact h) (Or.inl ⟨by rfl, ?_⟩) (by assumption) ?_
      rotate_left
      · (intro w hSw; (try dsimp only at hSw); go_simp)
        try with_reducible rfl
      rotate_left
      try simp only [Act.put, List.setIfInBounds_toArray, List.set_cons_zero, List.set_cons_succ]
      refine wpAnyH_ready (rs := [20]) (by kernel_rfl) (by simp) ?_
      refine AllReadyH.cons (by simp only [List.getElem?_toArray, List.getElem?_cons_succ, List.getElem?_cons_zero] <;> rfl) (fun K hK => ?_) AllReadyH.nil
      go_simp
      refine (Hs1.out _ hu).mono ?_
      rintro e ws1 ⟨vs5, rfl, hd5, hun⟩
      have Hd5 := Lib.hid hd5
      have hu := hu.trans hun
      refine hK.out _ _ (DD.out _ hu) (fun hHeld => ?_)
      clear hK K hHeld
      have hHeld := DD.out _ hu
      try simp only [Act.put, List.setIfInBounds_toArray, List.set_cons_zero, List.set_cons_succ]
      refine wpAnyH_ready (rs := [24]) (by kernel_rfl) (by simp) ?_
      refine AllReadyH.cons (by simp only [List.getElem?_toArray, List.getElem?_cons_succ, List.getElem?_cons_zero] <;> rfl) (fun K hK => ?_) AllReadyH.nil
      go_simp
      refine (Hs2.out _ hu).mono ?_
      rintro e ws2 ⟨vs6, rfl, hd6, hun2⟩
      have Hd6 := Lib.hid hd6
      have Hd56 := Lib.hid (stable_bod _ _ _ _ _ _ _ (Keep.upS hun2) Hd5.out)
      have hu := hu.trans hun2
      refine hK.out _ _ (DD.out _ hu) (fun hHeld => ?_)
      clear hK K hHeld
      have hHeld := DD.out _ hu
      try simp only [Act.put, List.setIfInBounds_toArray, List.set_cons_zero, List.set_cons_succ]
      refine wpAnyH_ready (rs := [25]) (by kernel_rfl) (by simp) ?_
      refine AllReadyH.cons (by simp only [List.getElem?_toArray, List.getElem?_cons_succ, List.getElem?_cons_zero] <;> rfl) (fun K hK => ?_) AllReadyH.nil
      go_simp
      refine (same_b (d + 1) SB2 _ _ _ _ _ Hd56.out Hd6.out).mono ?_
      rintro e ws3 ⟨rfl, hun3⟩
      have hu := hu.trans hun3
      refine hK.out _ _ (DD.out _ hu) (fun hHeld => ?_)
      clear hK K hHeld
      have hHeld := DD.out _ hu
      try simp only [Act.put, List.setIfInBounds_toArray, List.set_cons_zero, List.set_cons_succ]
      refine wpAnyH_take (i := 26) (v := ?_) (by simp only [List.getElem?_toArray, List.getElem?_cons_succ, List.getElem?_cons_zero] <;> rfl) (by kernel_rfl) (by kernel_rfl) (by kernel_rfl) (fun _ _ _ h => by exact h) (Or.inl ⟨by rfl, ?_⟩) (by assumption) ?_
      rotate_left
      · (intro w hSw; (try dsimp only at hSw); go_simp)
        try with_reducible rfl
      rotate_left
      try simp only [Act.put, List.setIfInBounds_toArray, List.set_cons_zero, List.set_cons_succ]
      refine wpAnyH_take (i := 27) (v := ?_) (by simp only [List.getElem?_toArray, List.getElem?_cons_succ, List.getElem?_cons_zero] <;> rfl) (by kernel_rfl) (by kernel_rfl) (by kernel_rfl) (fun _ _ _ h => by exact h) (Or.inl ⟨by rfl, ?_⟩) (by assumption) ?_
      rotate_left
      · (intro w hSw; (try dsimp only at hSw); go_simp)
        try with_reducible rfl
      rotate_left
      try simp only [Act.put, List.setIfInBounds_toArray, List.set_cons_zero, List.set_cons_succ]
      refine wpAnyH_done (by kernel_rfl) ?_ _
      go_wp2_with fail
      go_ret
      exact ⟨rfl, HU.out.trans hu⟩
    · refine wp_region_held_drew (S := fun w' => w'.cell? ⟨w.heap.size, 0, none⟩ = some (.slice (some ⟨mb, mo, none⟩) f.msgs.length mc) ∧ w'.cell? ⟨w.heap.size, 1, none⟩ = some (.slice ea f.enums.length ec) ∧ w'.cell? ⟨w.heap.size + 1, 0, none⟩ = some (.slice av1 a.values.length ac1) ∧ w'.cell? ⟨w.heap.size + 1, 1, none⟩ = some (.slice au1 a.unknown.length ac2) ∧ w'.cell? ⟨w.heap.size + 1 + 1 + 1, 0, none⟩ = some (.int .i64 vn) ∧ w'.cell? ⟨w.heap.size + 1 + 1 + 1, 1, none⟩ = some (.slice p1 vb2.length g1) ∧ w'.cell? ⟨w.heap.size + 1 + 1 + 1, 2, none⟩ = some (.slice p2 vy2.length g2) ∧ w'.cell? ⟨w.heap.size + 1 + 1 + 1, 3, none⟩ = some (.slice p3 vs2.length g3) ∧ w'.cell? ⟨M, 0, none⟩ = some (.string ⟨m.name.toArray⟩) ∧ w'.cell? ⟨M, 1, none⟩ = some (.slice (some ⟨xb, xo, none⟩) m.fields.length fc) ∧ w'.cell? ⟨M, 2, none⟩ = some (.slice ba m.barred.length bc)) (by kernel_rfl) (DD.out _ (Up.refl w16).drew) (fun hHeld => ?_)
      have hu := (Up.refl w16).drew
      have hHeld := DD.out _ hu
      refine wpAnyH_take (i := 0) (v := ?_) (by simp only [List.getElem?_toArray, List.getElem?_cons_zero] <;> rfl) (by kernel_rfl) (by kernel_rfl) (by kernel_rfl) (fun _ _ _ h => by exact h) (Or.inl ⟨by rfl, ?_⟩) (by assumption) ?_
      rotate_left
      · (intro w hSw; (try dsimp only at hSw); go_simp)
        try with_reducible rfl
      rotate_left
      try simp only [Act.put, List.setIfInBounds_toArray, List.set_cons_zero, List.set_cons_succ]
      refine wpAnyH_take (i := 1) (v := ?_) (by simp only [List.getElem?_toArray, List.getElem?_cons_succ, List.getElem?_cons_zero] <;> rfl) (by kernel_rfl) (by kernel_rfl) (by kernel_rfl) (fun _ _ _ h => by exact h) (Or.inl ⟨by rfl, ?_⟩) (by assumption) ?_
      rotate_left
      · (intro w hSw; (try dsimp only at hSw); go_simp)
        try with_reducible rfl
      rotate_left
      try simp only [Act.put, List.setIfInBounds_toArray, List.set_cons_zero, List.set_cons_succ]
      refine wpAnyH_take (i := 2) (v := ?_) (by simp only [List.getElem?_toArray, List.getElem?_cons_succ, List.getElem?_cons_zero] <;> rfl) (by kernel_rfl) (by kernel_rfl) (by kernel_rfl) (fun _ _ _ h => by exact h) (Or.inl ⟨by rfl, ?_⟩) (by assumption) ?_
      rotate_left
      · (intro w hSw; (try dsimp only at hSw); go_simp)
        try with_reducible rfl
      rotate_left
      try simp only [Act.put, List.setIfInBounds_toArray, List.set_cons_zero, List.set_cons_succ]
      refine wpAnyH_take (i := 3) (v := ?_) (by simp only [List.getElem?_toArray, List.getElem?_cons_succ, List.getElem?_cons_zero] <;> rfl) (by kernel_rfl) (by kernel_rfl) (by kernel_rfl) (fun _ _ _ h => by exact h) (Or.inl ⟨by rfl, ?_⟩) (by assumption) ?_
      rotate_left
      · (intro w hSw; (try dsimp only at hSw); go_simp)
        try with_reducible rfl
      rotate_left
      try simp only [Act.put, List.setIfInBounds_toArray, List.set_cons_zero, List.set_cons_succ]
      refine wpAnyH_take (i := 4) (v := ?_) (by simp only [List.getElem?_toArray, List.getElem?_cons_succ, List.getElem?_cons_zero] <;> rfl) (by kernel_rfl) (by kernel_rfl) (by kernel_rfl) (fun _ _ _ h => by exact h) (Or.inl ⟨by rfl, ?_⟩) (by assumption) ?_
      rotate_left
      · (intro w hSw; (try dsimp only at hSw); go_simp)
        try with_reducible rfl
      rotate_left
      try simp only [Act.put, List.setIfInBounds_toArray, List.set_cons_zero, List.set_cons_succ]
      refine wpAnyH_take (i := 5) (v := ?_) (by simp only [List.getElem?_toArray, List.getElem?_cons_succ, List.getElem?_cons_zero] <;> rfl) (by kernel_rfl) (by kernel_rfl) (by kernel_rfl) (fun _ _ _ h => by exact h) (Or.inl ⟨by rfl, ?_⟩) (by assumption) ?_
      rotate_left
      · (intro w hSw; (try dsimp only at hSw); go_simp)
        try with_reducible rfl
      rotate_left
      try simp only [Act.put, List.setIfInBounds_toArray, List.set_cons_zero, List.set_cons_succ]
      refine wpAnyH_ready (rs := [6]) (by kernel_rfl) (by simp) ?_
      refine AllReadyH.cons (by simp only [List.getElem?_toArray, List.getElem?_cons_succ, List.getElem?_cons_zero] <;> rfl) (fun K hK => ?_) AllReadyH.nil
      go_simp
      refine (Hwv.out _ hu).mono ?_
      rintro e wn6 ⟨rfl, hun⟩
      have hu := hu.trans hun
      refine hK.out _ _ (DD.out _ hu) (fun hHeld => ?_)
      clear hK K hHeld
      have hHeld := DD.out _ hu
      try simp only [Act.put, List.setIfInBounds_toArray, List.set_cons_zero, List.set_cons_succ]
      refine wpAnyH_take (i := 7) (v := ?_) (by simp only [List.getElem?_toArray, List.getElem?_cons_succ, List.getElem?_cons_zero] <;> rfl) (by kernel_rfl) (by kernel_rfl) (by kernel_rfl) (fun _ _ _ h => by exact h) (Or.inl ⟨by rfl, ?_⟩) (by assumption) ?_
      rotate_left
      · (intro w hSw; (try dsimp only at hSw); go_simp)
        try with_reducible rfl
      rotate_left
      try simp only [Act.put, List.setIfInBounds_toArray, List.set_cons_zero, List.set_cons_succ]
      refine wpAnyH_take (i := 8) (v := ?_) (by simp only [List.getElem?_toArray, List.getElem?_cons_succ, List.getElem?_cons_zero] <;> rfl) (by kernel_rfl) (by kernel_rfl) (by kernel_rfl) (fun _ _ _ h => by exact h) (Or.inl ⟨by rfl, ?_⟩) (by assumption) ?_
      rotate_left
      · (intro w hSw; (try dsimp only at hSw); go_simp)
        try with_reducible rfl
      rotate_left
      try simp only [Act.put, List.setIfInBounds_toArray, List.set_cons_zero, List.set_cons_succ]
      refine wpAnyH_take (i := 9) (v := ?_) (by simp only [List.getElem?_toArray, List.getElem?_cons_succ, List.getElem?_cons_zero] <;> rfl) (by kernel_rfl) (by kernel_rfl) (by kernel_rfl) (fun _ _ _ h => by exact h) (Or.inl ⟨by rfl, ?_⟩) (by assumption) ?_
      rotate_left
      · (intro w hSw; (try dsimp only at hSw); go_simp)
        try with_reducible rfl
      rotate_left
      try simp only [Act.put, List.setIfInBounds_toArray, List.set_cons_zero, List.set_cons_succ]
      refine wpAnyH_take (i := 10) (v := ?_) (by simp only [List.getElem?_toArray, List.getElem?_cons_succ, List.getElem?_cons_zero] <;> rfl) (by kernel_rfl) (by kernel_rfl) (by kernel_rfl) (fun _ _ _ h => by exact h) (Or.inl ⟨by rfl, ?_⟩) (by assumption) ?_
      rotate_left
      · (intro w hSw; (try dsimp only at hSw); go_simp)
        try with_reducible rfl
      rotate_left
      try simp only [Act.put, List.setIfInBounds_toArray, List.set_cons_zero, List.set_cons_succ]
      refine wpAnyH_take (i := 11) (v := ?_) (by simp only [List.getElem?_toArray, List.getElem?_cons_succ, List.getElem?_cons_zero] <;> rfl) (by kernel_rfl) (by kernel_rfl) (by kernel_rfl) (fun _ _ _ h => by exact h) (Or.inl ⟨by rfl, ?_⟩) (by assumption) ?_
      rotate_left
      · (intro w hSw; (try dsimp only at hSw); go_simp)
        try with_reducible rfl
      rotate_left
      try simp only [Act.put, List.setIfInBounds_toArray, List.set_cons_zero, List.set_cons_succ]
      refine wpAnyH_ready (rs := [12]) (by kernel_rfl) (by simp) ?_
      refine AllReadyH.cons (by simp only [List.getElem?_toArray, List.getElem?_cons_succ, List.getElem?_cons_zero] <;> rfl) (fun K hK => ?_) AllReadyH.nil
      go_simp
      refine (Hwv.out _ hu).mono ?_
      rintro e wn12 ⟨rfl, hun⟩
      have hu := hu.trans hun
      refine hK.out _ _ (DD.out _ hu) (fun hHeld => ?_)
      clear hK K hHeld
      have hHeld := DD.out _ hu
      try simp only [Act.put, List.setIfInBounds_toArray, List.set_cons_zero, List.set_cons_succ]
      refine wpAnyH_take (i := 13) (v := ?_) (by simp only [List.getElem?_toArray, List.getElem?_cons_succ, List.getElem?_cons_zero] <;> rfl) (by kernel_rfl) (by kernel_rfl) (by kernel_rfl) (fun _ _ _ h => by exact h) (Or.inl ⟨by rfl, ?_⟩) (by assumption) ?_
      rotate_left
      · (intro w hSw; (try dsimp only at hSw); go_simp)
        try with_reducible rfl
      rotate_left
      try simp only [Act.put, List.setIfInBounds_toArray, List.set_cons_zero, List.set_cons_succ]
      refine wpAnyH_take (i := 14) (v := ?_) (by simp only [List.getElem?_toArray, List.getElem?_cons_succ, List.getElem?_cons_zero] <;> rfl) (by kernel_rfl) (by kernel_rfl) (by kernel_rfl) (fun _ _ _ h => by exact h) (Or.inl ⟨by rfl, ?_⟩) (by assumption) ?_
      rotate_left
      · (intro w hSw; (try dsimp only at hSw); go_simp)
        try with_reducible rfl
      rotate_left
      try simp only [Act.put, List.setIfInBounds_toArray, List.set_cons_zero, List.set_cons_succ]
      refine wpAnyH_take (i := 15) (v := ?_) (by simp only [List.getElem?_toArray, List.getElem?_cons_succ, List.getElem?_cons_zero] <;> rfl) (by kernel_rfl) (by kernel_rfl) (by kernel_rfl) (fun _ _ _ h => by exact h) (Or.inl ⟨by rfl, ?_⟩) (by assumption) ?_
      rotate_left
      · (intro w hSw; (try dsimp only at hSw); go_simp)
        try with_reducible rfl
      rotate_left
      try simp only [Act.put, List.setIfInBounds_toArray, List.set_cons_zero, List.set_cons_succ]
      refine wpAnyH_take (i := 16) (v := ?_) (by simp only [List.getElem?_toArray, List.getElem?_cons_succ, List.getElem?_cons_zero] <;> rfl) (by kernel_rfl) (by kernel_rfl) (by kernel_rfl) (fun _ _ _ h => by exact h) (Or.inl ⟨by rfl, ?_⟩) (by assumption) ?_
      rotate_left
      · (intro w hSw; (try dsimp only at hSw); go_simp)
        try with_reducible rfl
      rotate_left
      try simp only [Act.put, List.setIfInBounds_toArray, List.set_cons_zero, List.set_cons_succ]
      refine wpAnyH_take (i := 17) (v := ?_) (by simp only [List.getElem?_toArray, List.getElem?_cons_succ, List.getElem?_cons_zero] <;> rfl) (by kernel_rfl) (by kernel_rfl) (by kernel_rfl) (fun _ _ _ h => by exact h) (Or.inl ⟨by rfl, ?_⟩) (by assumption) ?_
      rotate_left
      · (intro w hSw; (try dsimp only at hSw); go_simp)
        try with_reducible rfl
      rotate_left
      try simp only [Act.put, List.setIfInBounds_toArray, List.set_cons_zero, List.set_cons_succ]
      refine wpAnyH_take (i := 18) (v := ?_) (by simp only [List.getElem?_toArray, List.getElem?_cons_succ, List.getElem?_cons_zero] <;> rfl) (by kernel_rfl) (by kernel_rfl) (by kernel_rfl) (fun _ _ _ h => by exact h) (Or.inl ⟨by rfl, ?_⟩) (by assumption) ?_
      rotate_left
      · (intro w hSw; (try dsimp only at hSw); go_simp)
        try with_reducible rfl
      rotate_left
      try simp only [Act.put, List.setIfInBounds_toArray, List.set_cons_zero, List.set_cons_succ]
      refine wpAnyH_take (i := 19) (v := ?_) (by simp only [List.getElem?_toArray, List.getElem?_cons_succ, List.getElem?_cons_zero] <;> rfl) (by kernel_rfl) (by kernel_rfl) (by kernel_rfl) (fun _ _ _ h => by exact h) (Or.inl ⟨by rfl, ?_⟩) (by assumption) ?_
      rotate_left
      · (intro w hSw; (try dsimp only at hSw); go_simp)
        try with_reducible rfl
      rotate_left
      try simp only [Act.put, List.setIfInBounds_toArray, List.set_cons_zero, List.set_cons_succ]
      refine wpAnyH_take (i := 21) (v := ?_) (by simp only [List.getElem?_toArray, List.getElem?_cons_succ, List.getElem?_cons_zero] <;> rfl) (by kernel_rfl) (by kernel_rfl) (by kernel_rfl) (fun _ _ _ h => by exact h) (Or.inl ⟨by rfl, ?_⟩) (by assumption) ?_
      rotate_left
      · (intro w hSw; (try dsimp only at hSw); go_simp)
        try with_reducible rfl
      rotate_left
      try simp only [Act.put, List.setIfInBounds_toArray, List.set_cons_zero, List.set_cons_succ]
      refine wpAnyH_take (i := 22) (v := ?_) (by simp only [List.getElem?_toArray, List.getElem?_cons_succ, List.getElem?_cons_zero] <;> rfl) (by kernel_rfl) (by kernel_rfl) (by kernel_rfl) (fun _ _ _ h => by exact h) (Or.inl ⟨by rfl, ?_⟩) (by assumption) ?_
      rotate_left
      · (intro w hSw; (try dsimp only at hSw); go_simp)
        try with_reducible rfl
      rotate_left
      try simp only [Act.put, List.setIfInBounds_toArray, List.set_cons_zero, List.set_cons_succ]
      refine wpAnyH_take (i := 23) (v := ?_) (by simp only [List.getElem?_toArray, List.getElem?_cons_succ, List.getElem?_cons_zero] <;> rfl) (by kernel_rfl) (by kernel_rfl) (by kernel_rfl) (fun _ _ _ h => by exact h) (Or.inl ⟨by rfl, ?_⟩) (by assumption) ?_
      rotate_left
      · (intro w hSw; (try dsimp only at hSw); go_simp)
        try with_reducible rfl
      rotate_left
      try simp only [Act.put, List.setIfInBounds_toArray, List.set_cons_zero, List.set_cons_succ]
      refine wpAnyH_ready (rs := [20]) (by kernel_rfl) (by simp) ?_
      refine AllReadyH.cons (by simp only [List.getElem?_toArray, List.getElem?_cons_succ, List.getElem?_cons_zero] <;> rfl) (fun K hK => ?_) AllReadyH.nil
      go_simp
      refine (Hs1.out _ hu).mono ?_
      rintro e ws1 ⟨vs5, rfl, hd5, hun⟩
      have Hd5 := Lib.hid hd5
      have hu := hu.trans hun
      refine hK.out _ _ (DD.out _ hu) (fun hHeld => ?_)
      clear hK K hHeld
      have hHeld := DD.out _ hu
      try simp only [Act.put, List.setIfInBounds_toArray, List.set_cons_zero, List.set_cons_succ]
      refine wpAnyH_ready (rs := [24]) (by kernel_rfl) (by simp) ?_
      refine AllReadyH.cons (by simp only [List.getElem?_toArray, List.getElem?_cons_succ, List.getElem?_cons_zero] <;> rfl) (fun K hK => ?_) AllReadyH.nil
      go_simp
      refine (Hs2.out _ hu).mono ?_
      rintro e ws2 ⟨vs6, rfl, hd6, hun2⟩
      have Hd6 := Lib.hid hd6
      have Hd56 := Lib.hid (stable_bod _ _ _ _ _ _ _ (Keep.upS hun2) Hd5.out)
      have hu := hu.trans hun2
      refine hK.out _ _ (DD.out _ hu) (fun hHeld => ?_)
      clear hK K hHeld
      have hHeld := DD.out _ hu
      try simp only [Act.put, List.setIfInBounds_toArray, List.set_cons_zero, List.set_cons_succ]
      refine wpAnyH_ready (rs := [25]) (by kernel_rfl) (by simp) ?_
      refine AllReadyH.cons (by simp only [List.getElem?_toArray, List.getElem?_cons_succ, List.getElem?_cons_zero] <;> rfl) (fun K hK => ?_) AllReadyH.nil
      go_simp
      refine (same_b (d + 1) SB2 _ _ _ _ _ Hd56.out Hd6.out).mono ?_
      rintro e ws3 ⟨rfl, hun3⟩
      have hu := hu.trans hun3
      refine hK.out _ _ (DD.out _ hu) (fun hHeld => ?_)
      clear hK K hHeld
      have hHeld := DD.out _ hu
      try simp only [Act.put, List.setIfInBounds_toArray, List.set_cons_zero, List.set_cons_succ]
      refine wpAnyH_take (i := 26) (v := ?_) (by simp only [List.getElem?_toArray, List.getElem?_cons_succ, List.getElem?_cons_zero] <;> rfl) (by kernel_rfl) (by kernel_rfl) (by kernel_rfl) (fun _ _ _ h => by exact h) (Or.inl ⟨by rfl, ?_⟩) (by assumption) ?_
      rotate_left
      · (intro w hSw; (try dsimp only at hSw); go_simp)
        try with_reducible rfl
      rotate_left
      try simp only [Act.put, List.setIfInBounds_toArray, List.set_cons_zero, List.set_cons_succ]
      refine wpAnyH_take (i := 27) (v := ?_) (by simp only [List.getElem?_toArray, List.getElem?_cons_succ, List.getElem?_cons_zero] <;> rfl) (by kernel_rfl) (by kernel_rfl) (by kernel_rfl) (fun _ _ _ h => by exact h) (Or.inl ⟨by rfl, ?_⟩) (by assumption) ?_
      rotate_left
      · (intro w hSw; (try dsimp only at hSw); go_simp)
        try with_reducible rfl
      rotate_left
      try simp only [Act.put, List.setIfInBounds_toArray, List.set_cons_zero, List.set_cons_succ]
      refine wpAnyH_done (by kernel_rfl) ?_ _
      go_wp2_with fail
      go_ret
      exact ⟨rfl, HU.out.trans hu⟩
    · refine wp_region_held_drew (S := fun w' => w'.cell? ⟨w.heap.size, 0, none⟩ = some (.slice (some ⟨mb, mo, none⟩) f.msgs.length mc) ∧ w'.cell? ⟨w.heap.size, 1, none⟩ = some (.slice ea f.enums.length ec) ∧ w'.cell? ⟨w.heap.size + 1, 0, none⟩ = some (.slice av1 a.values.length ac1) ∧ w'.cell? ⟨w.heap.size + 1, 1, none⟩ = some (.slice au1 a.unknown.length ac2) ∧ w'.cell? ⟨w.heap.size + 1 + 1 + 1, 0, none⟩ = some (.int .i64 vn) ∧ w'.cell? ⟨w.heap.size + 1 + 1 + 1, 1, none⟩ = some (.slice p1 vb2.length g1) ∧ w'.cell? ⟨w.heap.size + 1 + 1 + 1, 2, none⟩ = some (.slice p2 vy2.length g2) ∧ w'.cell? ⟨w.heap.size + 1 + 1 + 1, 3, none⟩ = some (.slice p3 vs2.length g3) ∧ w'.cell? ⟨M, 0, none⟩ = some (.string ⟨m.name.toArray⟩) ∧ w'.cell? ⟨M, 1, none⟩ = some (.slice (some ⟨xb, xo, none⟩) m.fields.length fc) ∧ w'.cell? ⟨M, 2, none⟩ = some (.slice ba m.barred.length bc)) (by kernel_rfl) (DD.out _ (Up.refl w16).drew) (fun hHeld => ?_)
      have hu := (Up.refl w16).drew
      have hHeld := DD.out _ hu
      have d0 : (WV != 0) = true := by simpa using hw0
      have d2 : (WV != 2) = true := by simpa using hw2
      refine wpAnyH_take (i := 0) (v := ?_) (by simp only [List.getElem?_toArray, List.getElem?_cons_zero] <;> rfl) (by kernel_rfl) (by kernel_rfl) (by kernel_rfl) (fun _ _ _ h => by exact h) (Or.inl ⟨by rfl, ?_⟩) (by assumption) ?_
      rotate_left
      · (intro w hSw; (try dsimp only at hSw); go_simp)
        try with_reducible rfl
      rotate_left
      try simp only [Act.put, List.setIfInBounds_toArray, List.set_cons_zero, List.set_cons_succ]
      refine wpAnyH_take (i := 1) (v := ?_) (by simp only [List.getElem?_toArray, List.getElem?_cons_succ, List.getElem?_cons_zero] <;> rfl) (by kernel_rfl) (by kernel_rfl) (by kernel_rfl) (fun _ _ _ h => by exact h) (Or.inl ⟨by rfl, ?_⟩) (by assumption) ?_
      rotate_left
      · (intro w hSw; (try dsimp only at hSw); go_simp)
        try with_reducible rfl
      rotate_left
      try simp only [Act.put, List.setIfInBounds_toArray, List.set_cons_zero, List.set_cons_succ]
      refine wpAnyH_take (i := 2) (v := ?_) (by simp only [List.getElem?_toArray, List.getElem?_cons_succ, List.getElem?_cons_zero] <;> rfl) (by kernel_rfl) (by kernel_rfl) (by kernel_rfl) (fun _ _ _ h => by exact h) (Or.inl ⟨by rfl, ?_⟩) (by assumption) ?_
      rotate_left
      · (intro w hSw; (try dsimp only at hSw); go_simp)
        try with_reducible rfl
      rotate_left
      try simp only [Act.put, List.setIfInBounds_toArray, List.set_cons_zero, List.set_cons_succ]
      refine wpAnyH_take (i := 3) (v := ?_) (by simp only [List.getElem?_toArray, List.getElem?_cons_succ, List.getElem?_cons_zero] <;> rfl) (by kernel_rfl) (by kernel_rfl) (by kernel_rfl) (fun _ _ _ h => by exact h) (Or.inl ⟨by rfl, ?_⟩) (by assumption) ?_
      rotate_left
      · (intro w hSw; (try dsimp only at hSw); go_simp)
        try with_reducible rfl
      rotate_left
      try simp only [Act.put, List.setIfInBounds_toArray, List.set_cons_zero, List.set_cons_succ]
      refine wpAnyH_take (i := 4) (v := ?_) (by simp only [List.getElem?_toArray, List.getElem?_cons_succ, List.getElem?_cons_zero] <;> rfl) (by kernel_rfl) (by kernel_rfl) (by kernel_rfl) (fun _ _ _ h => by exact h) (Or.inl ⟨by rfl, ?_⟩) (by assumption) ?_
      rotate_left
      · (intro w hSw; (try dsimp only at hSw); go_simp)
        try with_reducible rfl
      rotate_left
      try simp only [Act.put, List.setIfInBounds_toArray, List.set_cons_zero, List.set_cons_succ]
      refine wpAnyH_take (i := 5) (v := ?_) (by simp only [List.getElem?_toArray, List.getElem?_cons_succ, List.getElem?_cons_zero] <;> rfl) (by kernel_rfl) (by kernel_rfl) (by kernel_rfl) (fun _ _ _ h => by exact h) (Or.inl ⟨by rfl, ?_⟩) (by assumption) ?_
      rotate_left
      · (intro w hSw; (try dsimp only at hSw); go_simp)
        try with_reducible rfl
      rotate_left
      try simp only [Act.put, List.setIfInBounds_toArray, List.set_cons_zero, List.set_cons_succ]
      refine wpAnyH_ready (rs := [6]) (by kernel_rfl) (by simp) ?_
      refine AllReadyH.cons (by simp only [List.getElem?_toArray, List.getElem?_cons_succ, List.getElem?_cons_zero] <;> rfl) (fun K hK => ?_) AllReadyH.nil
      go_simp
      refine (Hwv.out _ hu).mono ?_
      rintro e wn6 ⟨rfl, hun⟩
      have hu := hu.trans hun
      refine hK.out _ _ (DD.out _ hu) (fun hHeld => ?_)
      clear hK K hHeld
      have hHeld := DD.out _ hu
      try simp only [Act.put, List.setIfInBounds_toArray, List.set_cons_zero, List.set_cons_succ]
      refine wpAnyH_take (i := 7) (v := ?_) (by simp only [List.getElem?_toArray, List.getElem?_cons_succ, List.getElem?_cons_zero] <;> rfl) (by kernel_rfl) (by kernel_rfl) (by kernel_rfl) (fun _ _ _ h => by exact h) (Or.inl ⟨by rfl, ?_⟩) (by assumption) ?_
      rotate_left
      · (intro w hSw; (try dsimp only at hSw); go_simp)
        try with_reducible rfl
      rotate_left
      try simp only [Act.put, List.setIfInBounds_toArray, List.set_cons_zero, List.set_cons_succ]
      refine wpAnyH_take (i := 8) (v := ?_) (by simp only [List.getElem?_toArray, List.getElem?_cons_succ, List.getElem?_cons_zero] <;> rfl) (by kernel_rfl) (by kernel_rfl) (by kernel_rfl) (fun _ _ _ h => by exact h) (Or.inl ⟨by rfl, ?_⟩) (by assumption) ?_
      rotate_left
      · (intro w hSw; (try dsimp only at hSw); go_simp)
        try with_reducible rfl
      rotate_left
      try simp only [Act.put, List.setIfInBounds_toArray, List.set_cons_zero, List.set_cons_succ]
      refine wpAnyH_take (i := 9) (v := ?_) (by simp only [List.getElem?_toArray, List.getElem?_cons_succ, List.getElem?_cons_zero] <;> rfl) (by kernel_rfl) (by kernel_rfl) (by kernel_rfl) (fun _ _ _ h => by exact h) (Or.inl ⟨by rfl, ?_⟩) (by assumption) ?_
      rotate_left
      · (intro w hSw; (try dsimp only at hSw); go_simp)
        try with_reducible rfl
      rotate_left
      try simp only [Act.put, List.setIfInBounds_toArray, List.set_cons_zero, List.set_cons_succ]
      refine wpAnyH_take (i := 10) (v := ?_) (by simp only [List.getElem?_toArray, List.getElem?_cons_succ, List.getElem?_cons_zero] <;> rfl) (by kernel_rfl) (by kernel_rfl) (by kernel_rfl) (fun _ _ _ h => by exact h) (Or.inl ⟨by rfl, ?_⟩) (by assumption) ?_
      rotate_left
      · (intro w hSw; (try dsimp only at hSw); go_simp)
        try with_reducible rfl
      rotate_left
      try simp only [Act.put, List.setIfInBounds_toArray, List.set_cons_zero, List.set_cons_succ]
      refine wpAnyH_take (i := 11) (v := ?_) (by simp only [List.getElem?_toArray, List.getElem?_cons_succ, List.getElem?_cons_zero] <;> rfl) (by kernel_rfl) (by kernel_rfl) (by kernel_rfl) (fun _ _ _ h => by exact h) (Or.inl ⟨by rfl, ?_⟩) (by assumption) ?_
      rotate_left
      · (intro w hSw; (try dsimp only at hSw); go_simp)
        try with_reducible rfl
      rotate_left
      try simp only [Act.put, List.setIfInBounds_toArray, List.set_cons_zero, List.set_cons_succ]
      refine wpAnyH_ready (rs := [12]) (by kernel_rfl) (by simp) ?_
      refine AllReadyH.cons (by simp only [List.getElem?_toArray, List.getElem?_cons_succ, List.getElem?_cons_zero] <;> rfl) (fun K hK => ?_) AllReadyH.nil
      go_simp
      refine (Hwv.out _ hu).mono ?_
      rintro e wn12 ⟨rfl, hun⟩
      have hu := hu.trans hun
      refine hK.out _ _ (DD.out _ hu) (fun hHeld => ?_)
      clear hK K hHeld
      have hHeld := DD.out _ hu
      try simp only [Act.put, List.setIfInBounds_toArray, List.set_cons_zero, List.set_cons_succ]
      refine wpAnyH_take (i := 13) (v := ?_) (by simp only [List.getElem?_toArray, List.getElem?_cons_succ, List.getElem?_cons_zero] <;> rfl) (by kernel_rfl) (by kernel_rfl) (by kernel_rfl) (fun _ _ _ h => by exact h) (Or.inl ⟨by rfl, ?_⟩) (by assumption) ?_
      rotate_left
      · (intro w hSw; (try dsimp only at hSw); go_simp)
        try with_reducible rfl
      rotate_left
      try simp only [Act.put, List.setIfInBounds_toArray, List.set_cons_zero, List.set_cons_succ]
      refine wpAnyH_take (i := 14) (v := ?_) (by simp only [List.getElem?_toArray, List.getElem?_cons_succ, List.getElem?_cons_zero] <;> rfl) (by kernel_rfl) (by kernel_rfl) (by kernel_rfl) (fun _ _ _ h => by exact h) (Or.inl ⟨by rfl, ?_⟩) (by assumption) ?_
      rotate_left
      · (intro w hSw; (try dsimp only at hSw); go_simp)
        try with_reducible rfl
      rotate_left
      try simp only [Act.put, List.setIfInBounds_toArray, List.set_cons_zero, List.set_cons_succ]
      refine wpAnyH_take (i := 15) (v := ?_) (by simp only [List.getElem?_toArray, List.getElem?_cons_succ, List.getElem?_cons_zero] <;> rfl) (by kernel_rfl) (by kernel_rfl) (by kernel_rfl) (fun _ _ _ h => by exact h) (Or.inl ⟨by rfl, ?_⟩) (by assumption) ?_
      rotate_left
      · (intro w hSw; (try dsimp only at hSw); go_simp)
        try with_reducible rfl
      rotate_left
      try simp only [Act.put, List.setIfInBounds_toArray, List.set_cons_zero, List.set_cons_succ]
      refine wpAnyH_take (i := 16) (v := ?_) (by simp only [List.getElem?_toArray, List.getElem?_cons_succ, List.getElem?_cons_zero] <;> rfl) (by kernel_rfl) (by kernel_rfl) (by kernel_rfl) (fun _ _ _ h => by exact h) (Or.inl ⟨by rfl, ?_⟩) (by assumption) ?_
      rotate_left
      · (intro w hSw; (try dsimp only at hSw); go_simp)
        try with_reducible rfl
      rotate_left
      try simp only [Act.put, List.setIfInBounds_toArray, List.set_cons_zero, List.set_cons_succ]
      refine wpAnyH_take (i := 17) (v := _) (by simp only [List.getElem?_toArray, List.getElem?_cons_succ, List.getElem?_cons_zero] <;> rfl) (by kernel_rfl) (by kernel_rfl) (by kernel_rfl) (fun _ _ _ h => by exact h) (Or.inr ⟨by rfl, rfl⟩) (by assumption) ?_
      try simp only [Act.put, List.setIfInBounds_toArray, List.set_cons_zero, List.set_cons_succ]
      refine wpAnyH_take (i := 18) (v := _) (by simp only [List.getElem?_toArray, List.getElem?_cons_succ, List.getElem?_cons_zero] <;> rfl) (by kernel_rfl) (by kernel_rfl) (by kernel_rfl) (fun _ _ _ h => by exact h) (Or.inr ⟨by rfl, rfl⟩) (by assumption) ?_
      try simp only [Act.put, List.setIfInBounds_toArray, List.set_cons_zero, List.set_cons_succ]
      refine wpAnyH_take (i := 19) (v := _) (by simp only [List.getElem?_toArray, List.getElem?_cons_succ, List.getElem?_cons_zero] <;> rfl) (by kernel_rfl) (by kernel_rfl) (by kernel_rfl) (fun _ _ _ h => by exact h) (Or.inr ⟨by rfl, rfl⟩) (by assumption) ?_
      try simp only [Act.put, List.setIfInBounds_toArray, List.set_cons_zero, List.set_cons_succ]
      refine wpAnyH_take (i := 20) (v := _) (by simp only [List.getElem?_toArray, List.getElem?_cons_succ, List.getElem?_cons_zero] <;> rfl) (by kernel_rfl) (by kernel_rfl) (by kernel_rfl) (fun _ _ _ h => by exact h) (Or.inr ⟨by rfl, rfl⟩) (by assumption) ?_
      try simp only [Act.put, List.setIfInBounds_toArray, List.set_cons_zero, List.set_cons_succ]
      refine wpAnyH_take (i := 21) (v := _) (by simp only [List.getElem?_toArray, List.getElem?_cons_succ, List.getElem?_cons_zero] <;> rfl) (by kernel_rfl) (by kernel_rfl) (by kernel_rfl) (fun _ _ _ h => by exact h) (Or.inr ⟨by rfl, rfl⟩) (by assumption) ?_
      try simp only [Act.put, List.setIfInBounds_toArray, List.set_cons_zero, List.set_cons_succ]
      refine wpAnyH_take (i := 22) (v := _) (by simp only [List.getElem?_toArray, List.getElem?_cons_succ, List.getElem?_cons_zero] <;> rfl) (by kernel_rfl) (by kernel_rfl) (by kernel_rfl) (fun _ _ _ h => by exact h) (Or.inr ⟨by rfl, rfl⟩) (by assumption) ?_
      try simp only [Act.put, List.setIfInBounds_toArray, List.set_cons_zero, List.set_cons_succ]
      refine wpAnyH_take (i := 23) (v := _) (by simp only [List.getElem?_toArray, List.getElem?_cons_succ, List.getElem?_cons_zero] <;> rfl) (by kernel_rfl) (by kernel_rfl) (by kernel_rfl) (fun _ _ _ h => by exact h) (Or.inr ⟨by rfl, rfl⟩) (by assumption) ?_
      try simp only [Act.put, List.setIfInBounds_toArray, List.set_cons_zero, List.set_cons_succ]
      refine wpAnyH_take (i := 24) (v := _) (by simp only [List.getElem?_toArray, List.getElem?_cons_succ, List.getElem?_cons_zero] <;> rfl) (by kernel_rfl) (by kernel_rfl) (by kernel_rfl) (fun _ _ _ h => by exact h) (Or.inr ⟨by rfl, rfl⟩) (by assumption) ?_
      try simp only [Act.put, List.setIfInBounds_toArray, List.set_cons_zero, List.set_cons_succ]
      refine wpAnyH_take (i := 25) (v := _) (by simp only [List.getElem?_toArray, List.getElem?_cons_succ, List.getElem?_cons_zero] <;> rfl) (by kernel_rfl) (by kernel_rfl) (by kernel_rfl) (fun _ _ _ h => by exact h) (Or.inr ⟨by rfl, rfl⟩) (by assumption) ?_
      try simp only [Act.put, List.setIfInBounds_toArray, List.set_cons_zero, List.set_cons_succ]
      refine wpAnyH_take (i := 26) (v := ?_) (by simp only [List.getElem?_toArray, List.getElem?_cons_succ, List.getElem?_cons_zero] <;> rfl) (by kernel_rfl) (by kernel_rfl) (by kernel_rfl) (fun _ _ _ h => by exact h) (Or.inl ⟨by rfl, ?_⟩) (by assumption) ?_
      rotate_left
      · (intro w hSw; (try dsimp only at hSw); go_simp)
        try with_reducible rfl
      rotate_left
      try simp only [Act.put, List.setIfInBounds_toArray, List.set_cons_zero, List.set_cons_succ]
      refine wpAnyH_take (i := 27) (v := ?_) (by simp only [List.getElem?_toArray, List.getElem?_cons_succ, List.getElem?_cons_zero] <;> rfl) (by kernel_rfl) (by kernel_rfl) (by kernel_rfl) (fun _ _ _ h => by exact h) (Or.inl ⟨by rfl, ?_⟩) (by assumption) ?_
      rotate_left
      · (intro w hSw; (try dsimp only at hSw); go_simp)
        try with_reducible rfl
      rotate_left
      try simp only [Act.put, List.setIfInBounds_toArray, List.set_cons_zero, List.set_cons_succ]
      refine wpAnyH_done (by kernel_rfl) ?_ _
      go_wp2_with fail
      go_ret
      exact ⟨rfl, HU.out.trans hu⟩
end Go.Proofs.YtplgegffapikoaaDoor
