/-
  The law CodecTurns (written by gen_turns5.py).
-/
import Derived.Test.YtbceapeoknngnaaGreatDoorCp46
import Derived.Test.YtbceapeoknngnaaGreatDoorCp47
import Derived.Test.YtbceapeoknngnaaGreatDoorCp06
import Derived.Test.YtbceapeoknngnaaGreatDoorCp48
import Derived.Deep.Quiet
set_option linter.unusedVariables false
namespace Go.Proofs.YtbceapeoknngnaaGreatDoor
open Go.RowKit
set_option maxRecDepth 100000 in
set_option maxHeartbeats 6400000 in
theorem turns_any (d : Nat) (h13 : 13 ≤ d) (v : Value) (f : Fil) (msg : Int) (va ua : Value) (x : Bod) (vb : Value) (l : List UInt8) (w : World) (hf : FilV All w v f) (hx : DBodF d All w x [va, ua]) (hr : RdB All w vb l) (hll : l.length ≤ 1099511627776) (hT : Tabs w) (hwg : wgt 12 x ≤ 1000000000) :
    Calls Tryz.prog 6 #[v, .int .i64 msg, .agg #[va, ua], vb] w fun e w' => e = .returned (.bool true) ∧ Up w w' := by
  obtain ⟨vm, ve, rfl, hm, he⟩ := id hf
  obtain ⟨ma, mc, rfl, _, _⟩ := hm.val
  obtain ⟨ea, ec, rfl, _, _⟩ := he.val
  obtain ⟨la, lc, rfl, _, _⟩ := hr.val
  obtain ⟨av, al, ac, au, am, an, e1⟩ := bod_two hx
  simp only [List.cons.injEq, and_true] at e1
  obtain ⟨rfl, rfl⟩ := e1
  have h64 := b64_of d hx 12
  have hlen : wrongA f msg x = 0 → (rawB f 12 msg x).length ≤ 1099511627776 - 8200 := fun h => by
    obtain ⟨g1, _, _, g4⟩ := wrongA_four h
    have := raw_wgt g1 12 msg x g4 h64 (by omega)
    omega
  have Hf := Lib.hid hf; have Hr := Lib.hid hr; have HT := Lib.hid hT; have Hll := Lib.hid hll; have Hx := Lib.hid hx; have H64 := Lib.hid h64; have Hlen := Lib.hid hlen; have H13 := Lib.hid h13
  clear hf hr hT hm he hll hx hwg h64 hlen h13
  go_enter Tryz.func6, Tryz.ntmps6
  go_upto_region 1 with (fail)
  generalize hW : (w.alloc (.cells #[.slice ma f.msgs.length mc, .slice ea f.enums.length ec] 25)).alloc (.cells #[.slice av al ac, .slice au am an] 29) = w1
  have hb0 : w1.heap[w.heap.size]? = some (.cells #[.slice ma f.msgs.length mc, .slice ea f.enums.length ec] 25 (0, 0)) := by rw [← hW]; exact blk_old _ (blk_new w _ rfl)
  have hb1 : w1.heap[w.heap.size + 1]? = some (.cells #[.slice av al ac, .slice au am an] 29 (0, 0)) := by rw [← hW]; exact blk_new (w.alloc _) _ (by simp)
  have hu1 : Up w w1 := by rw [← hW]; exact ((Up.refl w).alloc _).alloc _
  have U1 := Lib.hid hu1; have HbB0 := Lib.hid hb0; have HbB1 := Lib.hid hb1
  obtain ⟨B0, hB0⟩ : ∃ B, w.heap.size = B := ⟨_, rfl⟩
  rw [hB0] at HbB0 HbB1 ⊢
  obtain ⟨B1, hB1⟩ : ∃ B, B0 + 1 = B := ⟨_, rfl⟩
  rw [hB1] at HbB1 ⊢
  clear hB1
  clear hW hb0 hb1 hu1 hB0
  go_upto_region 3 with (go_at_call 27; go_must (refine (alive_5 _ (HT.out.up U1.out)).mono ?_; rintro e w2 ⟨rfl, hu⟩))
  have U2 := Lib.hid hu
  clear hu
  obtain ⟨CB, hCB⟩ : ∃ CB, bytesC f msg x = CB := ⟨_, rfl⟩
  obtain ⟨CB, ce⟩ := CB
  have HCB := Lib.hid hCB
  clear hCB
  have f0 : w2.cell? ⟨B0, 0, none⟩ = some (.slice ma f.msgs.length mc) := cell_of_row _ _ 0 _ _ _ (U2.out.blk HbB0.out)
  have f1 : w2.cell? ⟨B0, 1, none⟩ = some (.slice ea f.enums.length ec) := cell_of_row _ _ 1 _ _ _ (U2.out.blk HbB0.out)
  have x0 : w2.cell? ⟨B1, 0, none⟩ = some (.slice av al ac) := cell_of_row _ _ 0 _ _ _ (U2.out.blk HbB1.out)
  have x1 : w2.cell? ⟨B1, 1, none⟩ = some (.slice au am an) := cell_of_row _ _ 1 _ _ _ (U2.out.blk HbB1.out)
  have hby := bytes_c d (.agg #[.slice ma f.msgs.length mc, .slice ea f.enums.length ec]) (.slice av al ac) (.slice au am an) f msg x w2 (Hf.out.up (U1.out.trans U2.out)) (stable_bod d _ _ All _ _ _ (Keep.upS (U1.out.trans U2.out)) Hx.out) (HT.out.up (U1.out.trans U2.out)) Hlen.out
  rw [HCB.out] at hby
  simp only at hby
  have Hby := Lib.hid hby
  clear hby
  go_upto_region 4 with (go_at_call 13; go_must (refine Hby.out.mono ?_; rintro e w3 ⟨vx3, rfl, how, hu⟩; obtain ⟨pa3, pc3, rfl⟩ := own_val how))
  have U3 := Lib.hid hu; have HP3 := Lib.hid (rdB_of_owns (S := All) how (fun _ _ => trivial))
  clear hu how f0 f1 x0 x1 Hby
  have hturn := fun h => parse_written (f := f) (msg := msg) (x := x) h H64.out
  rw [HCB.out] at hturn
  simp only at hturn
  have Hturn := Lib.hid hturn
  clear hturn
  go_upto_if 27 with (fail)
  go_cut [] (fun wc => Up w3 wc)
  case first =>
    by_cases hce : ce = 0
    case neg =>
      go_wp2_with fail
      go_meet
      exact Up.refl _
    subst hce
    have HRX := Lib.hid (Hturn.out rfl)
    have hc4 : CB.length ≤ 4000 := by have h := (bytesC_ok (f := f) (msg := msg) (x := x) (by rw [HCB.out])); rw [HCB.out] at h; have h1 : CB = rawB f 12 msg x := h.2.1; rw [h1]; exact h.2.2
    have Hc4 := Lib.hid hc4
    clear hc4
    have f0 : w3.cell? ⟨B0, 0, none⟩ = some (.slice ma f.msgs.length mc) := cell_of_row _ _ 0 _ _ _ ((U2.out.trans U3.out).blk HbB0.out)
    have f1 : w3.cell? ⟨B0, 1, none⟩ = some (.slice ea f.enums.length ec) := cell_of_row _ _ 1 _ _ _ ((U2.out.trans U3.out).blk HbB0.out)
    have hpa := parse_c (.agg #[.slice ma f.msgs.length mc, .slice ea f.enums.length ec]) f msg (.slice pa3 CB.length pc3) CB w3 (Hf.out.up (U1.out.trans (U2.out.trans U3.out))) HP3.out (by have := Hc4.out; omega) (HT.out.up (U1.out.trans (U2.out.trans U3.out)))
    rw [HRX.out] at hpa
    have Hpa := Lib.hid hpa
    clear hpa
    go_upto_region 6 with (go_at_call 14; go_must (refine Hpa.out.mono ?_; rintro e w4 ⟨vv, vu, rfl, hd, hu⟩; obtain ⟨y1, yn, yc, y2, ym, yd, hbt⟩ := bod_two hd; simp only [List.cons.injEq, and_true] at hbt; obtain ⟨rfl, rfl⟩ := hbt))
    have U4 := Lib.hid hu; have hd4 := bod_all hd
    clear hu hd f0 f1 Hpa
    obtain ⟨BY, hBY⟩ : ∃ G, w4.heap.size = G := ⟨_, rfl⟩
    have hblk := blk_new w4 (.cells #[.slice y1 yn yc, .slice y2 ym yd] 29) (g := BY) hBY.symm
    have hua := (Up.refl w4).alloc (.cells #[.slice y1 yn yc, .slice y2 ym yd] 29)
    rw [hBY]
    generalize hwn : w4.alloc (.cells #[.slice y1 yn yc, .slice y2 ym yd] 29) = w5 at *
    have U5 := Lib.hid hua; have HbBY := Lib.hid hblk
    clear hwn hblk hua hBY
    have HD5 := Lib.hid (stable_bod 13 _ _ All _ _ _ (Keep.upS U5.out) hd4)
    clear hd4
    have xf0 : w5.cell? ⟨B1, 0, none⟩ = some (.slice av al ac) := cell_of_row _ _ 0 _ _ _ ((U2.out.trans (U3.out.trans (U4.out.trans U5.out))).blk HbB1.out)
    have xf1 : w5.cell? ⟨B1, 1, none⟩ = some (.slice au am an) := cell_of_row _ _ 1 _ _ _ ((U2.out.trans (U3.out.trans (U4.out.trans U5.out))).blk HbB1.out)
    have yf0 : w5.cell? ⟨BY, 0, none⟩ = some (.slice y1 yn yc) := cell_of_row _ _ 0 _ _ _ ((Up.refl _).blk HbBY.out)
    have yf1 : w5.cell? ⟨BY, 1, none⟩ = some (.slice y2 ym yd) := cell_of_row _ _ 1 _ _ _ ((Up.refl _).blk HbBY.out)
    have Hsm := Lib.hid (same_b d x _ _ _ _ w5 (stable_bod d _ _ All _ _ _ (Keep.upS (U1.out.trans (U2.out.trans (U3.out.trans (U4.out.trans U5.out))))) Hx.out) (bod_le H13.out HD5.out))
    go_wp2_with (go_at_call 20; go_must (refine Hsm.out.mono ?_; rintro e w6 ⟨rfl, hu⟩; have U6 := Lib.hid hu; clear hu))
    go_meet
    exact (U4.out.trans (U5.out.trans U6.out))
  case rest =>
  obtain ⟨w7, rfl⟩ : ∃ y : World, y = wc := ⟨_, rfl⟩
  have U7 := Lib.hid hcut
  clear hcut Hturn
  obtain ⟨RC, hRC⟩ : ∃ RC, parseA f msg l = RC := ⟨_, rfl⟩
  have HRC := Lib.hid hRC
  have herr := fun h => parseA_err (f := f) (msg := msg) (l := l) h
  have hrt := fun h => parseA_right (f := f) (msg := msg) (l := l) h
  rw [hRC] at herr hrt
  clear hRC
  obtain ⟨RB, re⟩ := RC
  simp only at herr hrt
  have Herr := Lib.hid herr; have Hrt := Lib.hid hrt
  clear herr hrt
  have f0 : w7.cell? ⟨B0, 0, none⟩ = some (.slice ma f.msgs.length mc) := cell_of_row _ _ 0 _ _ _ ((U2.out.trans (U3.out.trans U7.out)).blk HbB0.out)
  have f1 : w7.cell? ⟨B0, 1, none⟩ = some (.slice ea f.enums.length ec) := cell_of_row _ _ 1 _ _ _ ((U2.out.trans (U3.out.trans U7.out)).blk HbB0.out)
  have hpa := parse_c (.agg #[.slice ma f.msgs.length mc, .slice ea f.enums.length ec]) f msg (.slice la l.length lc) l w7 (Hf.out.up (U1.out.trans (U2.out.trans (U3.out.trans U7.out)))) (Hr.out.up stable_u8 (U1.out.trans (U2.out.trans (U3.out.trans U7.out)))) Hll.out (HT.out.up (U1.out.trans (U2.out.trans (U3.out.trans U7.out))))
  rw [HRC.out] at hpa
  have Hpa := Lib.hid hpa
  clear hpa
  go_upto_region 9 with (go_at_call 14; go_must (refine Hpa.out.mono ?_; rintro e w8 ⟨vv, vu, rfl, hd, hu⟩; obtain ⟨z1, zn, zc, z2, zm, zd, hbt⟩ := bod_two hd; simp only [List.cons.injEq, and_true] at hbt; obtain ⟨rfl, rfl⟩ := hbt))
  have U8 := Lib.hid hu; have hd8 := bod_all hd
  clear hu hd f0 f1 Hpa
  obtain ⟨BZ, hBZ⟩ : ∃ G, w8.heap.size = G := ⟨_, rfl⟩
  have hblk := blk_new w8 (.cells #[.slice z1 zn zc, .slice z2 zm zd] 29) (g := BZ) hBZ.symm
  have hua := (Up.refl w8).alloc (.cells #[.slice z1 zn zc, .slice z2 zm zd] 29)
  rw [hBZ]
  generalize hwn : w8.alloc (.cells #[.slice z1 zn zc, .slice z2 zm zd] 29) = w9 at *
  have U9 := Lib.hid hua; have HbBZ := Lib.hid hblk
  clear hwn hblk hua hBZ
  have HD9 := Lib.hid (stable_bod 13 _ _ All _ _ _ (Keep.upS U9.out) hd8)
  clear hd8
  by_cases hre : re = 0
  rotate_left
  · have hbe := Herr.out hre
    subst hbe
    have hne : (re != 0) = true := by rw [bne_iff_ne]; exact hre
    clear hre
    have zf0 : w9.cell? ⟨BZ, 0, none⟩ = some (.slice z1 zn zc) := cell_of_row _ _ 0 _ _ _ ((Up.refl _).blk HbBZ.out)
    have zf1 : w9.cell? ⟨BZ, 1, none⟩ = some (.slice z2 zm zd) := cell_of_row _ _ 1 _ _ _ ((Up.refl _).blk HbBZ.out)
    go_wp2_with (go_at_call 20; go_must (refine (same_b 13 bod0 _ _ _ _ _ HD9.out (bod0_at 12 All _)).mono ?_; rintro e w10 ⟨rfl, hu⟩))
    go_ret
    exact ⟨rfl, (U1.out.trans (U2.out.trans (U3.out.trans (U7.out.trans (U8.out.trans U9.out))))).trans hu⟩
  subst hre
  have hrt := Hrt.out rfl
  have Hrt0 := Lib.hid hrt
  clear hrt Hrt Herr
  have f0 : w9.cell? ⟨B0, 0, none⟩ = some (.slice ma f.msgs.length mc) := cell_of_row _ _ 0 _ _ _ ((U2.out.trans (U3.out.trans (U7.out.trans (U8.out.trans U9.out)))).blk HbB0.out)
  have f1 : w9.cell? ⟨B0, 1, none⟩ = some (.slice ea f.enums.length ec) := cell_of_row _ _ 1 _ _ _ ((U2.out.trans (U3.out.trans (U7.out.trans (U8.out.trans U9.out)))).blk HbB0.out)
  have zf0 : w9.cell? ⟨BZ, 0, none⟩ = some (.slice z1 zn zc) := cell_of_row _ _ 0 _ _ _ ((Up.refl _).blk HbBZ.out)
  have zf1 : w9.cell? ⟨BZ, 1, none⟩ = some (.slice z2 zm zd) := cell_of_row _ _ 1 _ _ _ ((Up.refl _).blk HbBZ.out)
  have hwb := wrong_bod 13 (.agg #[.slice ma f.msgs.length mc, .slice ea f.enums.length ec]) (.slice z1 zn zc) (.slice z2 zm zd) f msg RB w9 (Hf.out.up (U1.out.trans (U2.out.trans (U3.out.trans (U7.out.trans (U8.out.trans U9.out)))))) HD9.out (HT.out.up (U1.out.trans (U2.out.trans (U3.out.trans (U7.out.trans (U8.out.trans U9.out))))))
  rw [Hrt0.out.1] at hwb
  have Hwb := Lib.hid hwb
  clear hwb
  go_upto_region 13 with (go_at_call 28; go_must (refine Hwb.out.mono ?_; rintro e w10 ⟨rfl, hu⟩))
  have U10 := Lib.hid hu
  clear hu f0 f1 zf0 zf1 Hwb
  obtain ⟨CD, hCD⟩ : ∃ CD, bytesC f msg RB = CD := ⟨_, rfl⟩
  obtain ⟨CD, cde⟩ := CD
  have HCD := Lib.hid hCD
  have h04 := bytesC_04 (f := f) (msg := msg) (x := RB) Hrt0.out.1
  rw [hCD] at h04
  have h64 := b64_of 13 HD9.out 12
  have hraw := raw_small Hrt0.out.1 h64 Hrt0.out.2
  have htr := fun h => parse_written (f := f) (msg := msg) (x := RB) h h64
  rw [hCD] at htr
  simp only at htr h04
  have hraw' : wrongA f msg RB = 0 → (rawB f 12 msg RB).length ≤ 1099511627776 - 8200 := fun _ => by omega
  have Hraw := Lib.hid hraw'; have Htr := Lib.hid htr; have H04 := Lib.hid h04
  clear hCD h04 h64 hraw hraw' htr
  have f0 : w10.cell? ⟨B0, 0, none⟩ = some (.slice ma f.msgs.length mc) := cell_of_row _ _ 0 _ _ _ ((U2.out.trans (U3.out.trans (U7.out.trans (U8.out.trans (U9.out.trans U10.out))))).blk HbB0.out)
  have f1 : w10.cell? ⟨B0, 1, none⟩ = some (.slice ea f.enums.length ec) := cell_of_row _ _ 1 _ _ _ ((U2.out.trans (U3.out.trans (U7.out.trans (U8.out.trans (U9.out.trans U10.out))))).blk HbB0.out)
  have zf0 : w10.cell? ⟨BZ, 0, none⟩ = some (.slice z1 zn zc) := cell_of_row _ _ 0 _ _ _ (U10.out.blk HbBZ.out)
  have zf1 : w10.cell? ⟨BZ, 1, none⟩ = some (.slice z2 zm zd) := cell_of_row _ _ 1 _ _ _ (U10.out.blk HbBZ.out)
  have hby := bytes_c 13 (.agg #[.slice ma f.msgs.length mc, .slice ea f.enums.length ec]) (.slice z1 zn zc) (.slice z2 zm zd) f msg RB w10 (Hf.out.up (U1.out.trans (U2.out.trans (U3.out.trans (U7.out.trans (U8.out.trans (U9.out.trans U10.out))))))) (stable_bod 13 _ _ All _ _ _ (Keep.upS U10.out) HD9.out) (HT.out.up (U1.out.trans (U2.out.trans (U3.out.trans (U7.out.trans (U8.out.trans (U9.out.trans U10.out))))))) Hraw.out
  rw [HCD.out] at hby
  simp only at hby
  have Hby := Lib.hid hby
  clear hby
  go_upto_region 14 with (go_at_call 13; go_must (refine Hby.out.mono ?_; rintro e w11 ⟨vx11, rfl, how, hu⟩; obtain ⟨pa11, pc11, rfl⟩ := own_val how))
  have U11 := Lib.hid hu; have HP11 := Lib.hid (rdB_of_owns (S := All) how (fun _ _ => trivial))
  clear hu how f0 f1 zf0 zf1 Hby
  rcases H04.out with h0 | h4
  rotate_left
  · have h4 : cde = 4 := h4
    subst h4
    go_wp2_with fail
    go_ret
    exact ⟨rfl, (U1.out.trans (U2.out.trans (U3.out.trans (U7.out.trans (U8.out.trans (U9.out.trans (U10.out.trans U11.out)))))))⟩
  have h0 : cde = 0 := h0
  subst h0
  have HRY := Lib.hid (Htr.out rfl)
  clear Htr H04
  have hc4 : CD.length ≤ 4000 := by have h := (bytesC_ok (f := f) (msg := msg) (x := RB) (by rw [HCD.out])); rw [HCD.out] at h; have h1 : CD = rawB f 12 msg RB := h.2.1; rw [h1]; exact h.2.2
  have Hc4 := Lib.hid hc4
  clear hc4
  have f0 : w11.cell? ⟨B0, 0, none⟩ = some (.slice ma f.msgs.length mc) := cell_of_row _ _ 0 _ _ _ ((U2.out.trans (U3.out.trans (U7.out.trans (U8.out.trans (U9.out.trans (U10.out.trans U11.out)))))).blk HbB0.out)
  have f1 : w11.cell? ⟨B0, 1, none⟩ = some (.slice ea f.enums.length ec) := cell_of_row _ _ 1 _ _ _ ((U2.out.trans (U3.out.trans (U7.out.trans (U8.out.trans (U9.out.trans (U10.out.trans U11.out)))))).blk HbB0.out)
  have hpa := parse_c (.agg #[.slice ma f.msgs.length mc, .slice ea f.enums.length ec]) f msg (.slice pa11 CD.length pc11) CD w11 (Hf.out.up (U1.out.trans (U2.out.trans (U3.out.trans (U7.out.trans (U8.out.trans (U9.out.trans (U10.out.trans U11.out)))))))) HP11.out (by have := Hc4.out; omega) (HT.out.up (U1.out.trans (U2.out.trans (U3.out.trans (U7.out.trans (U8.out.trans (U9.out.trans (U10.out.trans U11.out))))))))
  rw [HRY.out] at hpa
  have Hpa := Lib.hid hpa
  clear hpa
  go_upto_region 17 with (go_at_call 14; go_must (refine Hpa.out.mono ?_; rintro e w12 ⟨vv, vu, rfl, hd, hu⟩; obtain ⟨t1, tn, tc, t2, tm, td, hbt⟩ := bod_two hd; simp only [List.cons.injEq, and_true] at hbt; obtain ⟨rfl, rfl⟩ := hbt))
  have U12 := Lib.hid hu; have hd12 := bod_all hd
  clear hu hd f0 f1 Hpa
  obtain ⟨BW, hBW⟩ : ∃ G, w12.heap.size = G := ⟨_, rfl⟩
  have hblk := blk_new w12 (.cells #[.slice t1 tn tc, .slice t2 tm td] 29) (g := BW) hBW.symm
  have hua := (Up.refl w12).alloc (.cells #[.slice t1 tn tc, .slice t2 tm td] 29)
  rw [hBW]
  generalize hwn : w12.alloc (.cells #[.slice t1 tn tc, .slice t2 tm td] 29) = w13 at *
  have U13 := Lib.hid hua; have HbBW := Lib.hid hblk
  clear hwn hblk hua hBW
  have HD13 := Lib.hid (stable_bod 13 _ _ All _ _ _ (Keep.upS U13.out) hd12)
  clear hd12
  have zf0 : w13.cell? ⟨BZ, 0, none⟩ = some (.slice z1 zn zc) := cell_of_row _ _ 0 _ _ _ ((U10.out.trans (U11.out.trans (U12.out.trans U13.out))).blk HbBZ.out)
  have zf1 : w13.cell? ⟨BZ, 1, none⟩ = some (.slice z2 zm zd) := cell_of_row _ _ 1 _ _ _ ((U10.out.trans (U11.out.trans (U12.out.trans U13.out))).blk HbBZ.out)
  have tf0 : w13.cell? ⟨BW, 0, none⟩ = some (.slice t1 tn tc) := cell_of_row _ _ 0 _ _ _ ((Up.refl _).blk HbBW.out)
  have tf1 : w13.cell? ⟨BW, 1, none⟩ = some (.slice t2 tm td) := cell_of_row _ _ 1 _ _ _ ((Up.refl _).blk HbBW.out)
  have Hsm := Lib.hid (same_b 13 RB _ _ _ _ w13 (stable_bod 13 _ _ All _ _ _ (Keep.upS (U10.out.trans (U11.out.trans (U12.out.trans U13.out)))) HD9.out) HD13.out)
  go_wp2_with (go_at_call 20; go_must (refine Hsm.out.mono ?_; rintro e w14 ⟨rfl, hu⟩))
  go_ret
  exact ⟨rfl, (U1.out.trans (U2.out.trans (U3.out.trans (U7.out.trans (U8.out.trans (U9.out.trans (U10.out.trans (U11.out.trans (U12.out.trans U13.out))))))))).trans hu⟩
end Go.Proofs.YtbceapeoknngnaaGreatDoor
