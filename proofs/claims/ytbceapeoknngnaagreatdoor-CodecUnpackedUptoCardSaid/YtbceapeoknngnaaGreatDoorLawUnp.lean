/-
  The law CodecUnpacked.
-/
import Derived.Test.YtbceapeoknngnaaGreatDoorCp46
import Derived.Test.YtbceapeoknngnaaGreatDoorCp47
import Derived.Test.YtbceapeoknngnaaGreatDoorCp06
import Derived.Test.YtbceapeoknngnaaGreatDoorCp48
import Derived.Test.YtbceapeoknngnaaGreatDoorCp12
import Derived.Deep.Quiet
import Derived.Deep.RegionHeld3
set_option linter.unusedVariables false
namespace Go.Proofs.YtbceapeoknngnaaGreatDoor
open Go.RowKit
/-- An own row and the rows of another list behind it. -/
theorem own_cat {α : Type} {D : Lay α} (hD : Stable D) {base : Nat} {e : TypeId} {size : Nat} {w w' : World} {v v' : Value} {l r : List α} {css css' : List (List Value)} (h1 : css.length = l.length) (h3 : ∀ i, (h : i < l.length) → ∃ cs, css[i]? = some cs ∧ cs.length = size ∧ D (Av2 All v) w l[i] cs)
    (g1 : css'.length = r.length) (g3 : ∀ i, (h : i < r.length) → ∃ cs, css'[i]? = some cs ∧ cs.length = size ∧ D (Av2 All v) w r[i] cs) (hown : w'.ownsRow base e size v' (l.length + r.length) (css.flatten ++ css'.flatten)) (hev : Evo w w' v v') : OwnS D base e size All w' v' (l ++ r) := by
  refine ⟨css ++ css', by simp [h1, g1], by rw [List.length_append, List.flatten_append]; exact hown, fun i hi => ?_⟩
  have hk := Keep.evoS (S := All) hev
  rw [List.length_append] at hi
  by_cases hil : i < l.length
  · obtain ⟨cs, h4, h5, h6⟩ := h3 i hil
    refine ⟨cs, by rw [List.getElem?_append_left (by omega)]; exact h4, h5, ?_⟩
    rw [List.getElem_append_left hil]
    exact hD _ _ _ _ _ _ hk h6
  · obtain ⟨cs, h4, h5, h6⟩ := g3 (i - l.length) (by omega)
    refine ⟨cs, by rw [List.getElem?_append_right (by omega), h1]; exact h4, h5, ?_⟩
    rw [List.getElem_append_right (by omega)]
    exact hD _ _ _ _ _ _ hk h6
theorem unp_len {sub : Bod → List UInt8} {x : Fld} {v : Val} {wb : Bod → Nat} : (unpRecs sub x v).length ≤ wgtV wb v := by
  have h1 : ∀ l : List (List UInt8), l.length ≤ (l.map fun t => t.length + 25).sum := by
    intro l
    induction l with
    | nil => simp
    | cons a l ih => simp only [List.map_cons, List.sum_cons, List.length_cons]; omega
  have h2 : ∀ l : List Bod, l.length ≤ (l.map fun s => wb s + 25).sum := by
    intro l
    induction l with
    | nil => simp
    | cons a l ih => simp only [List.map_cons, List.sum_cons, List.length_cons]; omega
  have g1 := h1 v.2.2.1
  have g2 := h2 v.2.2.2
  unfold unpRecs wgtV
  split
  · rw [List.length_map]; omega
  · rename_i hc
    unfold valRecs
    rw [if_neg hc]
    simp only [List.length_append, List.length_map]
    omega
theorem unps_len {sub : Fld → Bod → List UInt8} {fs : List Fld} {wb : Bod → Nat} : ∀ l : List Val, (unpsRecs sub fs l).length ≤ (l.map (wgtV wb)).sum
  | [] => Nat.le_refl _
  | v :: l => by
    have ih := unps_len (sub := sub) (fs := fs) (wb := wb) l
    unfold unpsRecs at ih ⊢
    rw [List.flatMap_cons, List.length_append, List.map_cons, List.sum_cons]
    split
    · simp only [List.length_nil]; omega
    · rename_i x hx
      have := unp_len (sub := sub x) (x := x) (v := v) (wb := wb)
      omega
theorem sum_take_le (g : Val → Nat) (l : List Val) (k : Nat) : ((l.take k).map g).sum ≤ (l.map g).sum := by
  have e : (l.map g).sum = ((l.take k).map g).sum + ((l.drop k).map g).sum := by rw [← sum_append, ← List.map_append, List.take_append_drop]
  omega
theorem unk_len (l : List Rec) : l.length ≤ wgtU l := by
  unfold wgtU
  induction l with
  | nil => simp
  | cons a l ih => simp only [List.map_cons, List.sum_cons, List.length_cons]; omega
set_option maxRecDepth 100000 in
set_option maxHeartbeats 12800000 in
theorem unpacked_any (d : Nat) (h13 : 12 ≤ d) (v : Value) (f : Fil) (msg : Int) (va ua : Value) (x : Bod) (w : World) (hf : FilV All w v f) (hx : DBodF (d + 1) All w x [va, ua]) (hT : Tabs w) (hwg : wgt 12 x ≤ 1000000000) :
    Calls Tryz.prog 7 #[v, .int .i64 msg, .agg #[va, ua]] w fun e w' => e = .returned (.bool true) ∧ Up w w' := by
  obtain ⟨vm, ve, rfl, hm, he⟩ := id hf
  obtain ⟨ma, mc, rfl, _, _⟩ := hm.val
  obtain ⟨ea, ec, rfl, _, _⟩ := he.val
  obtain ⟨av, ac, au, an, rfl, rfl, hdv, hdu, hdz⟩ := bod_cells hx
  have h64 := b64_of (d + 1) hx 12
  have hvl : x.values.length ≤ 9223372036854775807 := by obtain ⟨_, _, _, h1, h2⟩ := hdv.val; omega
  have Hvl := Lib.hid hvl
  clear hvl
  have Hf := Lib.hid hf; have HT := Lib.hid hT; have Hx := Lib.hid hx; have H64 := Lib.hid h64; have H13 := Lib.hid h13; have Hm := Lib.hid hm; have Hdv := Lib.hid hdv; have Hdu := Lib.hid (rec_of_z hdu); have Hwg := Lib.hid hwg
  clear hf hT hm he hx hwg h64 h13 hdv hdu hdz
  go_enter Tryz.func7, Tryz.ntmps7
  go_upto_region 1 with (fail)
  generalize hW : (w.alloc (.cells #[.slice ma f.msgs.length mc, .slice ea f.enums.length ec] 25)).alloc (.cells #[.slice av x.values.length ac, .slice au x.unknown.length an] 29) = w1
  have hb0 : w1.heap[w.heap.size]? = some (.cells #[.slice ma f.msgs.length mc, .slice ea f.enums.length ec] 25 (0, 0)) := by rw [← hW]; exact blk_old _ (blk_new w _ rfl)
  have hb1 : w1.heap[w.heap.size + 1]? = some (.cells #[.slice av x.values.length ac, .slice au x.unknown.length an] 29 (0, 0)) := by rw [← hW]; exact blk_new (w.alloc _) _ (by simp)
  have hu1 : Up w w1 := by rw [← hW]; exact ((Up.refl w).alloc _).alloc _
  have U1 := Lib.hid hu1; have HbB0 := Lib.hid hb0; have HbB1 := Lib.hid hb1
  obtain ⟨B0, hB0⟩ : ∃ B, w.heap.size = B := ⟨_, rfl⟩
  rw [hB0] at HbB0 HbB1 ⊢
  obtain ⟨B1, hB1⟩ : ∃ B, B0 + 1 = B := ⟨_, rfl⟩
  rw [hB1] at HbB1 ⊢
  clear hW hb0 hb1 hu1 hB1
  go_upto_region 3 with (go_at_call 27; go_must (refine (alive_5 _ (HT.out.up U1.out)).mono ?_; rintro e w2 ⟨rfl, hu⟩))
  have U2 := Lib.hid hu
  clear hu
  have f0 : w2.cell? ⟨B0, 0, none⟩ = some (.slice ma f.msgs.length mc) := cell_of_row _ _ 0 _ _ _ (U2.out.blk HbB0.out)
  have f1 : w2.cell? ⟨B0, 1, none⟩ = some (.slice ea f.enums.length ec) := cell_of_row _ _ 1 _ _ _ (U2.out.blk HbB0.out)
  have x0 : w2.cell? ⟨B1, 0, none⟩ = some (.slice av x.values.length ac) := cell_of_row _ _ 0 _ _ _ (U2.out.blk HbB1.out)
  have x1 : w2.cell? ⟨B1, 1, none⟩ = some (.slice au x.unknown.length an) := cell_of_row _ _ 1 _ _ _ (U2.out.blk HbB1.out)
  obtain ⟨WA, hWA⟩ : ∃ y, wrongA f msg x = y := ⟨_, rfl⟩
  have hwb := wrong_bod (d + 1) (.agg #[.slice ma f.msgs.length mc, .slice ea f.enums.length ec]) (.slice av x.values.length ac) (.slice au x.unknown.length an) f msg x w2 (Hf.out.up (U1.out.trans U2.out)) (stable_bod _ _ _ All _ _ _ (Keep.upS (U1.out.trans U2.out)) Hx.out) (HT.out.up (U1.out.trans U2.out))
  rw [hWA] at hwb
  have Hwb := Lib.hid hwb; have HWA := Lib.hid hWA
  clear hwb hWA
  by_cases hw0 : WA = 0
  rotate_left
  · have hne : (WA != 0) = true := by rw [bne_iff_ne]; exact hw0
    clear hw0
    go_wp2_with (go_at_call 28; go_must (refine Hwb.out.mono ?_; rintro e w3 ⟨rfl, hu⟩))
    go_ret
    exact ⟨rfl, (U1.out.trans U2.out).trans hu⟩
  subst hw0
  obtain ⟨q1, q2, q3, q4⟩ := wrongA_four HWA.out
  obtain ⟨mi, rfl⟩ : ∃ mi : Nat, msg = mi := ⟨msg.toNat, by omega⟩
  have hmi : mi < f.msgs.length := by omega
  have hmr := right_msg q1 f.msgs[mi] (List.getElem_mem hmi)
  have hone := fun v (hv : v ∈ x.values) => one_value hmi HWA.out H64.out hv
  have hop := fun v h1 h2 z hz h0 => one_parse (f := f) hmi (v := v) h1 h2 (z := z) hz h0
  have hfin := parse_unps hmi HWA.out H64.out
  obtain ⟨mb, mo, cs, rfl, _, _, hcs, hd⟩ := Hm.out.at hmi
  obtain ⟨vf, vb', hd, hfs, hbs, hnm⟩ := hd
  subst hd
  obtain ⟨fa, fc, rfl, _, _⟩ := hfs.val
  obtain ⟨ba, bc, rfl, _, _⟩ := hbs.val
  have s0 := hcs 0 _ rfl; have s1 := hcs 1 _ rfl; have s2 := hcs 2 _ rfl
  simp only [Nat.add_zero] at s0
  have hw11 : ∀ v, wgtV (wgt 11) v ≤ wgt 12 (.mk [v] []) := fun v => by show _ ≤ ([v].map (wgtV (wgt 11))).sum + wgtU []; simp [wgtU]
  have hsumv : (x.values.map (wgtV (wgt 11))).sum + wgtU x.unknown ≤ 1000000000 := Hwg.out
  have Hone := Lib.hid hone; have Hop := Lib.hid hop; have Hfin := Lib.hid hfin; have Hfs := Lib.hid hfs; have Hsum := Lib.hid hsumv; have Hq := Lib.hid (⟨q1, q4⟩ : (wrongN f).1 = 0 ∧ wrongB f 12 (mi : Int) x = 0)
  have Hs := Lib.hid (⟨s0, s1, s2⟩ : w.cell? ⟨mb, mo + mi * 3, none⟩ = some (.string ⟨(f.msgs[mi]).name.toArray⟩) ∧ w.cell? ⟨mb, mo + mi * 3 + 1, none⟩ = some (.slice fa (f.msgs[mi]).fields.length fc) ∧ w.cell? ⟨mb, mo + mi * 3 + 2, none⟩ = some (.slice ba (f.msgs[mi]).barred.length bc))
  have Hmr := Lib.hid hmr
  clear hone hop hfin hfs hbs hnm hcs s0 s1 s2 hsumv hmr q1 q2 q3 q4
  generalize f.msgs[mi] = m at *
  have hm2 : (mi : Int) < (f.msgs.length : Int) := by omega
  go_upto_region 5 with (go_at_call 28; go_must (refine Hwb.out.mono ?_; rintro e w3 ⟨rfl, hu⟩))
  have U3 := Lib.hid hu
  have Hfc := Lib.hid (fun n W (u : Up w3 W) => field_r (.string ⟨m.name.toArray⟩) (.slice fa m.fields.length fc) (.slice ba m.barred.length bc) m.fields n W ⟨_, rfl⟩ ⟨_, _, _, rfl⟩ (Hfs.out.up stable_fld ((U1.out.trans (U2.out.trans U3.out)).trans u)))
  have x0 := hu.cell_some x0
  clear f0 f1 x1 hu Hwb
  go_wp2_with fail
  clear x0
  have Hz3 := Lib.hid (show B0 < w3.heap.size from lt_of_block ((U2.out.trans U3.out).blk HbB0.out))
  have HF3 := Lib.hid (fun W (u : Up w3 W) => (⟨cell_of_row _ _ 0 _ _ _ ((U2.out.trans (U3.out.trans u)).blk HbB0.out), cell_of_row _ _ 1 _ _ _ ((U2.out.trans (U3.out.trans u)).blk HbB0.out)⟩ : W.cell? ⟨B0, 0, none⟩ = some (.slice (some ⟨mb, mo, none⟩) f.msgs.length mc) ∧ W.cell? ⟨B0, 1, none⟩ = some (.slice ea f.enums.length ec)))
  have HX3 := Lib.hid (fun W (u : Up w3 W) => (⟨cell_of_row _ _ 0 _ _ _ ((U2.out.trans (U3.out.trans u)).blk HbB1.out), cell_of_row _ _ 1 _ _ _ ((U2.out.trans (U3.out.trans u)).blk HbB1.out)⟩ : W.cell? ⟨B1, 0, none⟩ = some (.slice av x.values.length ac) ∧ W.cell? ⟨B1, 1, none⟩ = some (.slice au x.unknown.length an)))
  go_loopw [7, 32] (fun h i wr => ∃ (j : Nat), j ≤ x.values.length ∧ i = .int .i64 j ∧ OwnS DRec w3.heap.size 71 4 All wr h (unpsRecs (subC f) m.fields (x.values.take j)) ∧ (∀ r ∈ unpsRecs (subC f) m.fields (x.values.take j), wrongRec r = 0 ∧ r.bits < 2 ^ 64) ∧ Up w3 wr) (fun _ i _ => x.values.length - (intOf i).toNat)
  case atStart => exact ⟨0, by omega, rfl, OwnS.nil _ _ _ _ _ _, (fun r hr => by cases hr), Up.refl _⟩
  case round =>
    obtain ⟨j, hj, rfl, how, hrr, hu⟩ := hrel
    have hle : (unpsRecs (subC f) m.fields (x.values.take j)).length ≤ 1000000000 := by
      have h1 := unps_len (sub := subC f) (fs := m.fields) (wb := wgt 11) (x.values.take j)
      have h2 := sum_take_le (wgtV (wgt 11)) x.values j
      have h3 := Hsum.out
      omega
    have How := Lib.hid how; have Hu := Lib.hid hu; have Hrr := Lib.hid hrr; have Hle := Lib.hid hle
    obtain ⟨xs0, hxs0⟩ := how.own
    obtain ⟨ha, hc, rfl⟩ := own_val hxs0
    clear how hu hrr hle hxs0
    by_cases hlt : j < x.values.length
    · obtain ⟨b, o, cs, rfl, _, _, hcs, hd⟩ := Hdv.out.at hlt
      obtain ⟨b1, c1, b2, c2, b3, c3, rfl, hn, hx1, hx2, hx3, zx⟩ := val_cells hd
      have hu0 := U1.out.trans (U2.out.trans (U3.out.trans Hu.out))
      have r0 := hu0.cell_some (hcs 0 _ rfl); have r1 := hu0.cell_some (hcs 1 _ rfl); have r2 := hu0.cell_some (hcs 2 _ rfl); have r3 := hu0.cell_some (hcs 3 _ rfl)
      simp only [Nat.add_zero] at r0
      clear hu0
      obtain ⟨g1, g2, z, hz, hzn, hwz, htz, n1, n2⟩ := Hone.out x.values[j] (List.getElem_mem hlt)
      have htk := unps_take (subC f) m.fields x.values hlt hz
      have hn64 := (H64.out.1 x.values[j] (List.getElem_mem hlt)).1
      have hwv : wgtV (wgt 11) x.values[j] ≤ 1000000000 := by
        have h1 := sum_mem (wgtV (wgt 11)) (List.getElem_mem hlt : x.values[j] ∈ x.values)
        have h2 := Hsum.out
        omega
      have Htk := Lib.hid htk; have Hx1 := Lib.hid hx1; have Hx2 := Lib.hid hx2; have Hx3 := Lib.hid hx3; have Zx := Lib.hid zx; have G1 := Lib.hid g1; have G2 := Lib.hid g2; have Hz := Lib.hid hz; have Hwz := Lib.hid hwz; have Htz := Lib.hid htz; have N12 := Lib.hid (⟨n1, n2⟩ : 1 ≤ z.number ∧ z.number < 536870912); have Hn64 := Lib.hid hn64; have Hwv := Lib.hid hwv; have Hn := Lib.hid hn; have Hzn := Lib.hid hzn
      have i0 : (0 : Int) ≤ (j : Int) := by omega
      have i1 : (j : Int) < (x.values.length : Int) := by omega
      have Hlt := Lib.hid hlt
      have hwr1 : RowKit.wrap64 ((j : Int) + 1) = ((j + 1 : Nat) : Int) := by have := Hvl.out; unfold RowKit.wrap64; omega
      have Hwr1 := Lib.hid hwr1
      clear hwr1
      obtain ⟨UP, hUP⟩ : ∃ UP, unpsRecs (subC f) m.fields (x.values.take j) = UP := ⟨_, rfl⟩
      rw [hUP] at How Hrr Hle Htk ⊢
      clear hx1 hx2 hx3 zx g1 g2 hz hwz htz n1 n2 hn64 hwv hn htk hUP hcs hj hd hzn
      generalize hv : x.values[j] = v at *
      obtain ⟨wq, rfl⟩ : ∃ wq : World, wq = wr := ⟨_, rfl⟩
      go_upto_region 9 with (fail)
      have hbT := blk_new wq (.cells #[.int .i64 v.1, .slice b1 v.2.1.length c1, .slice b2 v.2.2.1.length c2, .slice b3 v.2.2.2.length c3] 53) (g := wq.heap.size) rfl
      have hux := (Up.refl wq).alloc (.cells #[.int .i64 v.1, .slice b1 v.2.1.length c1, .slice b2 v.2.2.1.length c2, .slice b3 v.2.2.2.length c3] 53)
      obtain ⟨T, hT⟩ : ∃ T, wq.heap.size = T := ⟨_, rfl⟩
      rw [hT] at hbT ⊢
      generalize hwx : wq.alloc (.cells #[.int .i64 v.1, .slice b1 v.2.1.length c1, .slice b2 v.2.2.1.length c2, .slice b3 v.2.2.2.length c3] 53) = wx at *
      have Ux := Lib.hid hux; have HbT := Lib.hid hbT
      have HneT := Lib.hid (show (Value.slice ha UP.length hc).ownBlock ≠ some T from fun e => by
        obtain ⟨xs, hxs⟩ := How.out.own
        have := (hxs.lt T e).2
        omega)
      clear hwx hux hbT r0 r1 r2 r3 hv hT
      obtain ⟨hi, hfd⟩ | ⟨jj, hjj, hi, hfd⟩ := idxP_cases (fun y : Fld => y.number == v.1) m.fields
      · exact absurd (hfd.symm.trans Hz.out) (by simp)
      have hzj : m.fields[jj] = z := Option.some.inj (hfd.symm.trans Hz.out)
      obtain ⟨xb, xo, fcs, rfl, _, _, hfcs, hfd2⟩ := Hfs.out.at hjj
      rw [hzj] at hfd2
      obtain ⟨hfd2, hfok⟩ := hfd2
      subst hfd2
      have k2 := hfcs 2 _ rfl; have k4 := hfcs 4 _ rfl
      have Hk := Lib.hid (⟨k2, k4⟩ : w.cell? ⟨xb, xo + jj * 6 + 2, none⟩ = some (.int .i64 z.kind) ∧ w.cell? ⟨xb, xo + jj * 6 + 4, none⟩ = some (.bool z.many))
      have Hi := Lib.hid hi; have Hjj := Lib.hid hjj
      clear hi hfd hzj hfcs k2 k4 hfok
      have UW := Lib.hid (U1.out.trans (U2.out.trans (U3.out.trans (Hu.out.trans Ux.out))))
      have DD := Lib.hid (fun W (u : Up wx W) => (⟨cell_of_row _ _ 0 _ _ _ (((U2.out.trans (U3.out.trans (Hu.out.trans Ux.out))).trans u).blk HbB0.out), (UW.out.trans u).cell_some Hs.out.1, (UW.out.trans u).cell_some Hs.out.2.1, (UW.out.trans u).cell_some Hs.out.2.2, cell_of_row _ _ 0 _ _ _ (u.blk HbT.out)⟩ : W.cell? ⟨B0, 0, none⟩ = some (.slice (some ⟨mb, mo, none⟩) f.msgs.length mc) ∧ W.cell? ⟨mb, mo + mi * 3, none⟩ = some (.string ⟨m.name.toArray⟩) ∧ W.cell? ⟨mb, mo + mi * 3 + 1, none⟩ = some (.slice (some ⟨xb, xo, none⟩) m.fields.length fc) ∧ W.cell? ⟨mb, mo + mi * 3 + 2, none⟩ = some (.slice ba m.barred.length bc) ∧ W.cell? ⟨T, 0, none⟩ = some (.int .i64 v.1)))
      have Hfc5 := Lib.hid (fun W (u : Up wx W) => Hfc.out v.1 W ((Hu.out.trans Ux.out).trans u))
      have dd := DD.out wx (Up.refl _)
      have dd : wx.drew.cell? ⟨B0, 0, none⟩ = some (.slice (some ⟨mb, mo, none⟩) f.msgs.length mc) ∧ wx.drew.cell? ⟨mb, mo + mi * 3, none⟩ = some (.string ⟨m.name.toArray⟩) ∧ wx.drew.cell? ⟨mb, mo + mi * 3 + 1, none⟩ = some (.slice (some ⟨xb, xo, none⟩) m.fields.length fc) ∧ wx.drew.cell? ⟨mb, mo + mi * 3 + 2, none⟩ = some (.slice ba m.barred.length bc) ∧ wx.drew.cell? ⟨T, 0, none⟩ = some (.int .i64 v.1) := dd
      go_cut [10] (fun p wc => p = .pointer (some ⟨xb, xo + jj * 6, none⟩) ∧ Up wx wc)
      case first =>
        go_region_held3 (fun w' => w'.cell? ⟨B0, 0, none⟩ = some (.slice (some ⟨mb, mo, none⟩) f.msgs.length mc) ∧ w'.cell? ⟨mb, mo + mi * 3, none⟩ = some (.string ⟨m.name.toArray⟩) ∧ w'.cell? ⟨mb, mo + mi * 3 + 1, none⟩ = some (.slice (some ⟨xb, xo, none⟩) m.fields.length fc) ∧ w'.cell? ⟨mb, mo + mi * 3 + 2, none⟩ = some (.slice ba m.barred.length bc) ∧ w'.cell? ⟨T, 0, none⟩ = some (.int .i64 v.1))
          (first | with_reducible exact dd | with_reducible exact DD.out _ hw5)
          (first | (go_at_call 29; refine (Hfc5.out _ (Up.refl wx).drew).mono ?_; rintro e w6 ⟨⟨p, rfl, hp1, hp2⟩, hu6'⟩; obtain ⟨yb, yo, yc, hsl, rfl, _⟩ := hp2 jj Hjj.out Hi.out; simp only [Value.slice.injEq, Option.some.injEq, Addr.mk.injEq, and_true, true_and] at hsl; obtain ⟨⟨rfl, rfl⟩, rfl⟩ := hsl; have hw5 := (Up.refl wx).drew.trans hu6'))
        all_goals
          go_wp2_with fail
          go_meet
          exact ⟨rfl, hw5⟩
      case rest =>
      obtain ⟨rfl, huc⟩ := hcut
      obtain ⟨wd, rfl⟩ : ∃ y : World, y = wc := ⟨_, rfl⟩
      have Ud := Lib.hid huc
      clear huc dd DD Hfc5
      have Hk := Lib.hid (fun W (u : Up w3 W) => (⟨((U1.out.trans (U2.out.trans U3.out)).trans u).cell_some Hk.out.1, ((U1.out.trans (U2.out.trans U3.out)).trans u).cell_some Hk.out.2⟩ : W.cell? ⟨xb, xo + jj * 6 + 2, none⟩ = some (.int .i64 z.kind) ∧ W.cell? ⟨xb, xo + jj * 6 + 4, none⟩ = some (.bool z.many)))
      have HbT := Lib.hid (Ud.out.blk HbT.out)
      have UD := Lib.hid (UW.out.trans Ud.out)
      have U3D := Lib.hid (Hu.out.trans (Ux.out.trans Ud.out))
      have HowD := Lib.hid (How.out.up stable_rec (Ux.out.trans Ud.out))
      have Hz2 := Lib.hid (show w3.heap.size ≤ wd.heap.size from U3D.out.size)
      clear Ux Ud How UW
      generalize xo + jj * 6 = zo at *
      have t1 : wd.cell? ⟨T, 1, none⟩ = some (.slice b1 v.2.1.length c1) := cell_of_row _ _ 1 _ _ _ HbT.out
      have k4 := (Hk.out wd U3D.out).2
      go_upto_region 10 with (fail)
      go_cut [54] (fun p wc => p = .bool (!z.many || decide (v.2.1.length = 0)) ∧ Up wd wc)
      case first =>
        cases hmz : z.many with
        | false =>
          rw [hmz] at k4
          go_wp2_with fail
          go_meet
          exact ⟨by simp [hmz], Up.refl _⟩
        | true =>
          rw [hmz] at k4
          by_cases hl0 : v.2.1.length = 0
          · have hl1 : (v.2.1.length : Int) = 0 := by omega
            rw [hl0] at t1
            go_wp2_with fail
            go_meet
            exact ⟨by simp [hl0, hmz], Up.refl _⟩
          · have hl1 : ((v.2.1.length : Int) == 0) = false := by simpa using hl0
            go_wp2_with fail
            go_meet
            exact ⟨by simp [hl0, hmz], Up.refl _⟩
      case rest =>
      obtain ⟨rfl, huc⟩ := hcut
      obtain ⟨we, rfl⟩ : ∃ y : World, y = wc := ⟨_, rfl⟩
      have HbT := Lib.hid (huc.blk HbT.out)
      have UE := Lib.hid (UD.out.trans huc)
      have U3E := Lib.hid (U3D.out.trans huc)
      have HowE := Lib.hid (HowD.out.up stable_rec huc)
      have Hz2 := Lib.hid (show w3.heap.size ≤ we.heap.size from U3E.out.size)
      clear t1 k4 huc UD U3D HowD Hu
      cases hQ : (!z.many || decide (v.2.1.length = 0)) with
      | true =>
        have hab : z.many = false ∨ v.2.1 = [] := by
          rw [Bool.or_eq_true] at hQ
          rcases hQ with h | h
          · exact .inl (by simpa using h)
          · exact .inr (List.eq_nil_of_length_eq_zero (by simpa using h))
        have hun := unp_one (sub := subC f z) Hwz.out Htz.out hab
        rw [hun] at Htk
        clear hab hun hQ
        have h04 := bytesC_04 (f := f) (msg := (mi : Int)) (x := .mk [v] []) G1.out
        have hpp := fun h0 => Hop.out v G1.out G2.out z Hz.out h0
        have hok := fun (h : (bytesC f (mi : Int) (.mk [v] [])).2 = 0) => bytesC_ok h
        have hraw : wrongA f (mi : Int) (.mk [v] []) = 0 → (rawB f 12 (mi : Int) (.mk [v] [])).length ≤ 1099511627776 - 8200 := fun h => by
          obtain ⟨e1, _, _, e4⟩ := wrongA_four h
          have e5 : wgt 12 (.mk [v] []) = wgtV (wgt 11) v := by show ([v].map (wgtV (wgt 11))).sum + wgtU [] = _; simp [wgtU]
          have := Hwv.out
          have := raw_wgt e1 12 (mi : Int) (.mk [v] []) e4 G2.out (by rw [e5]; omega)
          omega
        have hblk := blk_new we (.cells #[.int .i64 v.1, .slice b1 v.2.1.length c1, .slice b2 v.2.2.1.length c2, .slice b3 v.2.2.2.length c3] 53) (g := we.heap.size) rfl
        have hda : DBodF (d + 1) All (we.alloc (.cells #[.int .i64 v.1, .slice b1 v.2.1.length c1, .slice b2 v.2.2.1.length c2, .slice b3 v.2.2.2.length c3] 53)) (.mk [v] []) [.slice (some ⟨we.heap.size, 0, none⟩) 1 1, .slice none 0 0] := by
          refine ⟨_, _, rfl, rds_block (l := [v]) hblk trivial (show (1 : Nat) ≤ maxLen by decide) (fun i hi => ?_), rdS_nil _ _ _ _, by unfold BodSz; simp [Bod.values, Bod.unknown]⟩
          have hi2 : i < 1 := hi
          obtain rfl : i = 0 := by omega
          have hua := UE.out.trans ((Up.refl we).alloc (.cells #[.int .i64 v.1, .slice b1 v.2.1.length c1, .slice b2 v.2.2.1.length c2, .slice b3 v.2.2.2.length c3] 53))
          exact ⟨rfl, _, _, _, rfl, Hn.out, Hx1.out.up stable_u64 hua, Hx2.out.up stable_bytes hua, Hx3.out.up (stable_bod d) hua, Zx.out⟩
        have hby := bytes_c (d + 1) (.agg #[.slice (some ⟨mb, mo, none⟩) f.msgs.length mc, .slice ea f.enums.length ec]) (.slice (some ⟨we.heap.size, 0, none⟩) 1 1) (.slice none 0 0) f (mi : Int) (.mk [v] []) (we.alloc (.cells #[.int .i64 v.1, .slice b1 v.2.1.length c1, .slice b2 v.2.2.1.length c2, .slice b3 v.2.2.2.length c3] 53)) (Hf.out.up (UE.out.alloc _)) hda (HT.out.up (UE.out.alloc _)) hraw
        obtain ⟨OB, hOB⟩ : ∃ OB, bytesC f (mi : Int) (.mk [v] []) = OB := ⟨_, rfl⟩
        rw [hOB] at h04 hpp hok hby
        obtain ⟨OB, oe⟩ := OB
        simp only at h04 hpp hok hby
        have H04 := Lib.hid h04; have Hpp := Lib.hid hpp; have Hok := Lib.hid hok; have Hby := Lib.hid hby
        clear h04 hpp hok hby hda hblk hraw hOB
        obtain ⟨f0, f1⟩ := HF3.out we U3E.out
        have t0 : we.cell? ⟨T, 0, none⟩ = some (.int .i64 v.1) := cell_of_row _ _ 0 _ _ _ HbT.out
        have t1 : we.cell? ⟨T, 1, none⟩ = some (.slice b1 v.2.1.length c1) := cell_of_row _ _ 1 _ _ _ HbT.out
        have t2 : we.cell? ⟨T, 2, none⟩ = some (.slice b2 v.2.2.1.length c2) := cell_of_row _ _ 2 _ _ _ HbT.out
        have t3 : we.cell? ⟨T, 3, none⟩ = some (.slice b3 v.2.2.2.length c3) := cell_of_row _ _ 3 _ _ _ HbT.out
        go_upto_region 12 with (go_at_call 13; go_must (refine Hby.out.mono ?_; rintro e wf ⟨vx, rfl, howb, hu⟩; obtain ⟨pa, pc, rfl⟩ := own_val howb))
        have UF := Lib.hid (((Up.refl we).alloc _).trans hu)
        have HP := Lib.hid (rdB_of_owns (S := All) howb (fun _ _ => trivial))
        have hzf : we.heap.size < wf.heap.size := by have := hu.size; simp at this; omega
        clear hu howb f0 f1 t0 t1 t2 t3 Hby
        have hwp := parse_any (.slice pa OB.length pc) OB wf HP.out
        obtain ⟨PR, hPR⟩ : ∃ PR, parse OB = PR := ⟨_, rfl⟩
        rw [hPR] at hwp
        have hpp2 := fun h => (Hpp.out h)
        have hlp := fun (h : (parse OB).2.1 = 0) => (parse_right h)
        rw [hPR] at hpp2 hlp
        obtain ⟨PL, PE, PA⟩ := PR
        simp only at hwp hpp2 hlp
        have Hwp := Lib.hid hwp; have Hpp := Lib.hid hpp2; have Hlp := Lib.hid hlp
        clear hwp hpp2 hlp hPR
        go_upto_region 13 with (go_at_call 30; go_must (refine Hwp.out.mono ?_; rintro e wg ⟨v4, rfl, how4, hu4⟩))
        have hbl : ∀ k, (Value.slice ha UP.length hc).ownBlock = some k → k < we.heap.size := fun k hk => by
          obtain ⟨xs, hxs⟩ := HowE.out.own
          exact (hxs.lt k hk).2
        have hrl := how4.rd (S' := Av2 All (.slice ha UP.length hc)) stable_rec (fun k hk => ⟨trivial, fun e => by have := hbl k e; omega⟩) (fun k hk => ⟨trivial, fun e => by
          obtain ⟨xs, hxs⟩ := how4.own
          have := (hxs.lt k hk).1
          have := hbl k e
          omega⟩)
        obtain ⟨ra, rc, rfl, _, _⟩ := hrl.val
        have hux := hu4.alloc (.cells #[.int .i64 PE, .int .i64 (PA : Int)] 67)
        have hbY := blk_new wg (.cells #[.int .i64 PE, .int .i64 (PA : Int)] 67) (g := wg.heap.size) rfl
        have hrl5 := hrl.up stable_rec ((Up.refl wg).alloc (.cells #[.int .i64 PE, .int .i64 (PA : Int)] 67))
        obtain ⟨Y, hY⟩ : ∃ Y, wg.heap.size = Y := ⟨_, rfl⟩
        rw [hY] at hbY ⊢
        generalize hwh : wg.alloc (.cells #[.int .i64 PE, .int .i64 (PA : Int)] 67) = wh at *
        have y0 : wh.cell? ⟨Y, 0, none⟩ = some (.int .i64 PE) := cell_of_row _ _ 0 _ _ _ hbY
        have UH := Lib.hid (UF.out.trans hux)
        have Hrl := Lib.hid hrl5; have HowH := Lib.hid (HowE.out.up stable_rec UH.out); have U3H := Lib.hid (U3E.out.trans UH.out)
        clear hbl hrl hrl5 hux hbY hwh how4 hu4 Hwp hY
        rcases (show oe = 4 ∨ oe = 0 by have := H04.out; omega) with h4 | h0
        · subst h4
          go_wp2_with fail
          go_ret
          exact ⟨rfl, U1.out.trans (U2.out.trans (U3.out.trans U3H.out))⟩
        subst h0
        obtain ⟨hpe, hpr⟩ := Hpp.out rfl
        simp only [Prod.mk.injEq] at hpe
        obtain ⟨rfl, rfl, rfl⟩ := hpe
        obtain ⟨css, hcl, hown, hel⟩ := HowH.out
        obtain ⟨_, nx, cx, lx, ex, fx, gx⟩ := RdS.css (by decide) Hrl.out
        have hlen := Hwv.out
        have hl2 : (valRecs (subC f z) z v).length ≤ 4000 := by
          have h1 := Hlp.out (by trivial)
          have h2 := len_flat (l := valRecs (subC f z) z v)
          have h3 := h1.1
          have h4 := h1.2.2
          omega
        have Hcl := Lib.hid hcl; have Hown := Lib.hid hown; have Hel := Lib.hid hel
        have Nx := Lib.hid nx; have Lx := Lib.hid lx; have Ex := Lib.hid ex; have Fx := Lib.hid fx; have Gx := Lib.hid gx; have Hpr := Lib.hid hpr
        have hzh : w3.heap.size ≤ wh.heap.size := U3H.out.size
        have hUP := Hle.out
        clear hcl hown hel nx lx ex fx gx hpr hlen
        go_wp2_with (at_builtin; go_must (refine wpList_app eRec' _ (by rfl) _ _ (by rfl) w3.heap.size _ _ _ (by rfl) Hown.out ra (valRecs (subC f z) z v).length rc (by rfl) cx.flatten Fx.out Nx.out Gx.out (ones_rec Lx.out Ex.out) (by omega) (by unfold maxLen; omega) hzh ?_; intro v9 w9 how9 hev9; have How9 := Lib.hid how9; have Hev9 := Lib.hid hev9; clear how9 hev9))
        go_roundw
        case rel =>
          refine ⟨j + 1, by have := Hlt.out; omega, by have := Hlt.out; rw [Hwr1.out], ?_, ?_, Up.evo U3H.out Hev9.out (fun k e => (HowH.out.lo k e).1)⟩
          · rw [Htk.out]
            exact own_cat stable_rec Hcl.out Hel.out Lx.out Ex.out How9.out Hev9.out
          · rw [Htk.out]
            intro r hr
            rcases List.mem_append.1 hr with h | h
            · exact Hrr.out r h
            · exact Hpr.out r h
        case measure => have := Hlt.out; rw [Hwr1.out]; simp [intOf]; omega
      | false =>
        have hmz : z.many = true := by
          cases hz' : z.many with
          | true => rfl
          | false => rw [hz'] at hQ; simp at hQ
        have hbn : v.2.1 ≠ [] := fun e => by rw [e] at hQ; simp at hQ
        obtain ⟨hue, hur⟩ := unp_many (sub := subC f z) Hwz.out Htz.out hmz hbn N12.out.1 N12.out.2 Hn64.out
        rw [hue] at Htk hur
        have Hur := Lib.hid hur
        have hbl : v.2.1.length ≤ 1000000000 := by
          have h1 := Hwv.out
          unfold wgtV at h1
          omega
        have Hbl := Lib.hid hbl
        clear hue hur hQ hmz hbn hbl
        have t1 : we.cell? ⟨T, 1, none⟩ = some (.slice b1 v.2.1.length c1) := cell_of_row _ _ 1 _ _ _ HbT.out
        go_wp2_with fail
        clear t1
        go_loopw [7, 84] (fun h i wr2 => ∃ k : Nat, k ≤ v.2.1.length ∧ i = .int .i64 k ∧ OwnS DRec w3.heap.size 71 4 All wr2 h (UP ++ (v.2.1.take k).map (fun n => ⟨z.number, howC z.kind, toldC z.kind n, []⟩)) ∧ Evo we wr2 (.slice ha UP.length hc) h) (fun _ i _ => v.2.1.length - (intOf i).toNat)
        case atStart => exact ⟨0, by omega, rfl, by simpa using HowE.out, Evo.refl _ _⟩
        case round =>
          obtain ⟨k, hk, rfl, how, hev⟩ := hrel
          have How := Lib.hid how; have HevR := Lib.hid hev
          have H3 := Lib.hid (Up.evo U3E.out hev (fun q e => (HowE.out.lo q e).1))
          have HbTr := Lib.hid (hev.blk HbT.out HneT.out)
          obtain ⟨xs1, hxs1⟩ := how.own
          obtain ⟨ha2, hc2, rfl⟩ := own_val hxs1
          clear how hev
          by_cases hltk : k < v.2.1.length
          · obtain ⟨nb, no, ncs, hnb, _, _, hncs, hnd⟩ := (Hx1.out.up stable_u64 (U1.out.trans (U2.out.trans (U3.out.trans H3.out)))).at hltk
            subst hnb
            obtain ⟨rfl, hn64⟩ := hnd
            have c0 : wr.cell? ⟨nb, no + k, none⟩ = some (.int .u64 (v.2.1[k] : Int)) := by have h := hncs 0 _ rfl; simpa using h
            have Hwr2 := Lib.hid (show RowKit.wrap64 ((k : Int) + 1) = ((k + 1 : Nat) : Int) by have := Hbl.out; unfold RowKit.wrap64; omega)
            have i2 : (0 : Int) ≤ (k : Int) := by omega
            have i3 : (k : Int) < (v.2.1.length : Int) := by omega
            have htk2 : (v.2.1.take (k + 1)).map (fun n => (⟨z.number, howC z.kind, toldC z.kind n, []⟩ : Rec)) = (v.2.1.take k).map (fun n => ⟨z.number, howC z.kind, toldC z.kind n, []⟩) ++ [⟨z.number, howC z.kind, toldC z.kind v.2.1[k], []⟩] := by
              rw [List.take_succ_eq_append_getElem hltk, List.map_append]
              rfl
            have hlen2 : (UP ++ (v.2.1.take k).map (fun n => (⟨z.number, howC z.kind, toldC z.kind n, []⟩ : Rec))).length ≤ 3000000000 := by
              rw [List.length_append, List.length_map, List.length_take]
              have := Hle.out
              have := Hbl.out
              omega
            have Htk2 := Lib.hid htk2; have Hltk := Lib.hid hltk; have Hn64' := Lib.hid hn64; have Hlen2 := Lib.hid hlen2
            clear htk2 hncs hk hlen2 hn64
            generalize v.2.1[k] = n at *
            obtain ⟨UQ, hUQ⟩ : ∃ UQ, UP ++ (v.2.1.take k).map (fun n => (⟨z.number, howC z.kind, toldC z.kind n, []⟩ : Rec)) = UQ := ⟨_, rfl⟩
            rw [hUQ] at How hxs1 Hlen2 HevR ⊢
            have HUQ := Lib.hid hUQ
            clear hUQ
            obtain ⟨wo, rfl⟩ : ∃ y : World, y = wr := ⟨_, rfl⟩
            go_upto_region 19 with (fail)
            have HK2 := Lib.hid (fun W (u : Up wo W) => (⟨cell_of_row _ _ 0 _ _ _ (u.blk HbTr.out), (Hk.out W (H3.out.trans u)).1⟩ : W.cell? ⟨T, 0, none⟩ = some (.int .i64 v.1) ∧ W.cell? ⟨xb, zo + 2, none⟩ = some (.int .i64 z.kind)))
            have dd : wo.drew.cell? ⟨T, 0, none⟩ = some (.int .i64 v.1) ∧ wo.drew.cell? ⟨xb, zo + 2, none⟩ = some (.int .i64 z.kind) := HK2.out wo (Up.refl _)
            have hhw := how_c z.kind
            have Hhw := Lib.hid hhw
            clear hhw c0 hxs1
            go_cut [17] (fun p wc => ∃ Rb, p = .pointer (some ⟨Rb, 0, none⟩) ∧ wo.heap.size ≤ Rb ∧ wc.heap[Rb]? = some (.cells #[.int .i64 v.1, .int .i64 (howC z.kind), .int .u64 (n : Int), .slice none 0 0] 71 (0, 0)) ∧ Up wo wc)
            case first =>
              go_region_held3 (fun w' => w'.cell? ⟨T, 0, none⟩ = some (.int .i64 v.1) ∧ w'.cell? ⟨xb, zo + 2, none⟩ = some (.int .i64 z.kind))
                (first | with_reducible exact dd | exact HK2.out _ (by repeat (first | (with_reducible assumption) | (with_reducible exact Up.refl _) | (with_reducible refine Up.alloc ?_ _) | (with_reducible refine Up.drew ?_) | (with_reducible refine Up.setCell ?_ (by first | omega | (simp; done) | (simp; omega)) _))))
                (first | (go_at_call 21; refine (Hhw.out _).mono ?_; rintro e w6 ⟨rfl, hw6⟩; subst hw6))
              all_goals
                go_wp2_with fail
                go_meet
                exact ⟨_, rfl, Nat.le_refl _, blk_new _ _ rfl, (by repeat (first | (with_reducible assumption) | (with_reducible exact Up.refl _) | (with_reducible refine Up.alloc ?_ _) | (with_reducible refine Up.drew ?_) | (with_reducible refine Up.setCell ?_ (by first | omega | (simp; done) | (simp; omega)) _)))⟩
            case rest =>
            obtain ⟨Rb, rfl, hRb, hbR, huc⟩ := hcut
            obtain ⟨wp, rfl⟩ : ∃ y : World, y = wc := ⟨_, rfl⟩
            have k2 := (HK2.out wp huc).2
            have HbR := Lib.hid hbR; have Up' := Lib.hid huc; have HRb := Lib.hid hRb
            clear hbR huc hRb dd
            go_upto_if 101 with (fail)
            go_cut [] (fun wc => wc.heap[Rb]? = some (.cells #[.int .i64 v.1, .int .i64 (howC z.kind), .int .u64 (toldC z.kind n : Int), .slice none 0 0] 71 (0, 0)) ∧ Up wo wc)
            case first =>
              by_cases h2 : z.kind = 2
              · have hk2 : (z.kind == 2) = true := by simpa using h2
                have h0 : -9223372036854775808 ≤ sgn n ∧ sgn n ≤ 9223372036854775807 := by unfold sgn; have := Hn64'.out; split <;> omega
                have Hfo := Lib.hid (fold_any (sgn n) wp h0.1 h0.2)
                have Hsw := Lib.hid (sgn_wrap n Hn64'.out)
                have hR3 := cell_of_row wp _ 2 _ _ _ HbR.out
                have hRf := frozen_of_row wp _ 2 _ _ HbR.out
                clear h0
                go_wp2_with (go_at_call 31; go_must (rw [Hsw.out]; refine Hfo.out.mono ?_; rintro e w7 ⟨rfl, rfl⟩))
                go_meet
                have e : toldC z.kind n = Lib.zigzag (sgn n) := if_pos h2
                rw [e]
                exact ⟨heap_setCell_same _ Rb 2 _ _ _ HbR.out, Up.setCell Up'.out (p := ⟨Rb, 2, none⟩) HRb.out _⟩
              · have hk2 : (z.kind == 2) = false := by simpa using h2
                have e : toldC z.kind n = n := if_neg h2
                go_wp2_with fail
                go_meet
                rw [e]
                exact ⟨HbR.out, Up'.out⟩
            case rest =>
            obtain ⟨hbR, huc⟩ := hcut
            obtain ⟨wk, rfl⟩ : ∃ y : World, y = wc := ⟨_, rfl⟩
            have Uk := Lib.hid huc
            have HowK := Lib.hid (How.out.up stable_rec huc)
            obtain ⟨xs, hxs⟩ := HowK.out.own
            have Hxs := Lib.hid hxs
            have r0 : wk.cell? ⟨Rb, 0, none⟩ = some (.int .i64 v.1) := cell_of_row wk _ 0 _ _ _ hbR
            have r1 : wk.cell? ⟨Rb, 1, none⟩ = some (.int .i64 (howC z.kind)) := cell_of_row wk _ 1 _ _ _ hbR
            have r2 : wk.cell? ⟨Rb, 2, none⟩ = some (.int .u64 (toldC z.kind n : Int)) := cell_of_row wk _ 2 _ _ _ hbR
            have r3 : wk.cell? ⟨Rb, 3, none⟩ = some (.slice none 0 0) := cell_of_row wk _ 3 _ _ _ hbR
            have hwz : w3.heap.size ≤ wk.heap.size := (H3.out.trans Uk.out).size
            have hl3 := Hlen2.out
            clear k2 hxs hbR huc HbR Up' HRb
            go_wp2_with (at_builtin; go_must (refine wpList_app1 eRec' _ (by rfl) _ _ (by rfl) w3.heap.size _ _ _ (by rfl) Hxs.out _ (by rfl) (by first | rfl | simp) (by rfl) (oc (by rfl)) (by omega) (by unfold maxLen; omega) (by first | omega | (simp; omega)) ?_; intro v9 w9 how9 hev9; have How9 := Lib.hid how9; have Hev9 := Lib.hid hev9; clear how9 hev9))
            go_roundw
            case rel =>
              refine ⟨k + 1, by have := Hltk.out; omega, by have := Hltk.out; rw [Hwr2.out], ?_, ?_⟩
              · rw [Htk2.out, ← List.append_assoc, HUQ.out]
                refine OwnS.snoc stable_rec HowK.out Hxs.out How9.out Hev9.out (by rfl) ⟨_, by rw [Hzn.out], rdB_nil _ _, by have := told_64 (k := z.kind) Hn64'.out; simpa using this⟩
              · exact (HevR.out.trans (evo_up Uk.out)).trans Hev9.out
            case measure => have := Hltk.out; rw [Hwr2.out]; simp [intOf]; omega
          · have e2 : v.2.1.map (fun n => (⟨z.number, howC z.kind, toldC z.kind n, []⟩ : Rec)) = (v.2.1.take k).map (fun n => ⟨z.number, howC z.kind, toldC z.kind n, []⟩) := by rw [List.take_of_length_le (by omega)]
            have He2 := Lib.hid e2
            clear e2 hxs1
            go_wp2_with fail
            go_roundw
            case rel =>
              refine ⟨j + 1, by have := Hlt.out; omega, by rw [Hwr1.out], ?_, ?_, H3.out⟩
              · rw [Htk.out, He2.out]
                exact How.out
              · rw [Htk.out]
                intro r hr
                rcases List.mem_append.1 hr with h | h
                · exact Hrr.out r h
                · exact Hur.out r h
            case measure => have := Hlt.out; rw [Hwr1.out]; simp [intOf]; omega
    · have htk : x.values.take j = x.values := List.take_of_length_le (by omega)
      rw [htk] at How Hrr Hle ⊢
      obtain ⟨LV, hLV⟩ : ∃ LV, unpsRecs (subC f) m.fields x.values = LV := ⟨_, rfl⟩
      rw [hLV] at How Hrr Hle Hfin ⊢
      have hfin := Hfin.out Hrr.out
      obtain ⟨css, hcl, hown, hel⟩ := How.out
      have hu0 := U1.out.trans (U2.out.trans (U3.out.trans Hu.out))
      have hu3 := U1.out.trans (U2.out.trans U3.out)
      have hrl : RdS DRec 4 (Av2 All (.slice ha LV.length hc)) wr (.slice au x.unknown.length an) x.unknown :=
        ((Hdu.out.keep stable_rec Keep.lt).up stable_rec hu0).keep stable_rec (Keep.weak (fun k hk => ⟨trivial, fun e => by
          have h1 : k < w.heap.size := hk
          have h2 := (How.out.lo k e).1
          have h3 := hu3.size
          omega⟩))
      obtain ⟨_, nx, cx, lx, ex, fx, gx⟩ := RdS.css (by decide) hrl
      have Hcl := Lib.hid hcl; have Hown := Lib.hid hown; have Hel := Lib.hid hel; have Hfn := Lib.hid hfin
      have Nx := Lib.hid nx; have Lx := Lib.hid lx; have Ex := Lib.hid ex; have Fx := Lib.hid fx; have Gx := Lib.hid gx
      have hzh : w3.heap.size ≤ wr.heap.size := Hu.out.size
      have hUP := Hle.out
      have hun : x.unknown.length ≤ 1000000000 := by have h1 := unk_len x.unknown; have h2 := Hsum.out; omega
      have x1 := (HX3.out wr Hu.out).2
      have tok1 : True := trivial
      obtain ⟨PB, hPB⟩ : ∃ PB, bytesP (LV ++ x.unknown) = PB := ⟨_, rfl⟩
      rw [hPB] at Hfn
      have HPB := Lib.hid hPB
      clear hcl hown hel nx lx ex fx gx hrl hu0 hu3 hfin htk hLV hPB
      obtain ⟨PL, PE, PA⟩ := PB
      simp only at Hfn
      go_upto_region 26 with (first
        | (at_builtin; clear tok1; go_must (refine wpList_app eRec' _ (by rfl) _ _ (by rfl) w3.heap.size _ _ _ (by rfl) Hown.out au x.unknown.length an (by rfl) cx.flatten Fx.out Nx.out Gx.out (ones_rec Lx.out Ex.out) (by omega) (by unfold maxLen; omega) hzh ?_; intro v9 w9 how9 hev9; have U9 := Lib.hid (Up.evo Hu.out hev9 (fun k e => (How.out.lo k e).1)); have Hw9 := Lib.hid ((own_cat stable_rec Hcl.out Hel.out Lx.out Ex.out how9 hev9).rd (S' := All) stable_rec (fun _ _ => trivial) (fun _ _ => trivial)); clear how9 hev9))
        | (go_at_call 32; go_must (have hby := bytes_any v9 (LV ++ x.unknown) w9 Hw9.out; rw [HPB.out] at hby; refine hby.mono ?_; rintro e wg ⟨vb, rfl, howb, hu⟩; obtain ⟨pa, pc, rfl⟩ := own_val howb)))
      have HP := Lib.hid (rdB_of_owns (S := All) howb (fun _ _ => trivial))
      have hux := hu.alloc (.cells #[.int .i64 PE, .int .i64 (PA : Int)] 67)
      have hbY := blk_new wg (.cells #[.int .i64 PE, .int .i64 (PA : Int)] 67) (g := wg.heap.size) rfl
      obtain ⟨Y, hY⟩ : ∃ Y, wg.heap.size = Y := ⟨_, rfl⟩
      have HP := Lib.hid (HP.out.up stable_u8 ((Up.refl wg).alloc (.cells #[.int .i64 PE, .int .i64 (PA : Int)] 67)))
      rw [hY] at hbY ⊢
      generalize hwh : wg.alloc (.cells #[.int .i64 PE, .int .i64 (PA : Int)] 67) = wh at *
      have y0 : wh.cell? ⟨Y, 0, none⟩ = some (.int .i64 PE) := cell_of_row _ _ 0 _ _ _ hbY
      have UH := Lib.hid (U9.out.trans hux)
      clear hux hbY hwh howb hu hby hY x1
      rcases Hfn.out with ⟨h0, hpa, hl4⟩ | h4
      rotate_left
      · have h4 : PE = 4 := h4
        subst h4
        go_wp2_with fail
        go_ret
        exact ⟨rfl, U1.out.trans (U2.out.trans (U3.out.trans UH.out))⟩
      have h0 : PE = 0 := h0
      subst h0
      obtain ⟨f0, f1⟩ := HF3.out wh UH.out
      have hpc := parse_c (.agg #[.slice (some ⟨mb, mo, none⟩) f.msgs.length mc, .slice ea f.enums.length ec]) f (mi : Int) (.slice pa PL.length pc) PL wh (Hf.out.up (U1.out.trans (U2.out.trans (U3.out.trans UH.out)))) HP.out (by have h : PL.length ≤ 4000 := hl4; omega) (HT.out.up (U1.out.trans (U2.out.trans (U3.out.trans UH.out))))
      rw [show parseA f (mi : Int) PL = (x, 0) from hpa] at hpc
      have Hpc := Lib.hid hpc
      clear hpc hpa hl4
      go_upto_region 29 with (go_at_call 14; go_must (refine Hpc.out.mono ?_; rintro e wi ⟨vv, vu, rfl, hd, hu⟩; obtain ⟨s1, n1, d1, s2, n2, d2, hbt⟩ := bod_two hd; simp only [List.cons.injEq, and_true] at hbt; obtain ⟨rfl, rfl⟩ := hbt))
      have hux := hu.alloc (.cells #[.slice s1 n1 d1, .slice s2 n2 d2] 29)
      have hd3 := stable_bod 13 _ _ All _ _ _ (Keep.upS ((Up.refl wi).alloc (.cells #[.slice s1 n1 d1, .slice s2 n2 d2] 29))) (bod_all hd)
      have hbZ := blk_new wi (.cells #[.slice s1 n1 d1, .slice s2 n2 d2] 29) (g := wi.heap.size) rfl
      obtain ⟨Z, hZ⟩ : ∃ Z, wi.heap.size = Z := ⟨_, rfl⟩
      rw [hZ] at hbZ ⊢
      generalize hwj : wi.alloc (.cells #[.slice s1 n1 d1, .slice s2 n2 d2] 29) = wj at *
      have UJ := Lib.hid (UH.out.trans hux)
      have z0 : wj.cell? ⟨Z, 0, none⟩ = some (.slice s1 n1 d1) := cell_of_row _ _ 0 _ _ _ hbZ
      have z1 : wj.cell? ⟨Z, 1, none⟩ = some (.slice s2 n2 d2) := cell_of_row _ _ 1 _ _ _ hbZ
      obtain ⟨x0', x1'⟩ := HX3.out wj UJ.out
      have Hsm := Lib.hid (same_b (d + 1) x _ _ _ _ wj (stable_bod (d + 1) _ _ All _ _ _ (Keep.upS (U1.out.trans (U2.out.trans (U3.out.trans UJ.out)))) Hx.out) (bod_le (by have := H13.out; omega) hd3))
      clear hux hd3 hbZ hwj hZ hd hu f0 f1 y0
      go_wp2_with (go_at_call 20; go_must (refine Hsm.out.mono ?_; rintro e wk ⟨rfl, hu⟩))
      go_ret
      exact ⟨rfl, (U1.out.trans (U2.out.trans (U3.out.trans UJ.out))).trans hu⟩
end Go.Proofs.YtbceapeoknngnaaGreatDoor
