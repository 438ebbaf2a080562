/-
  The law CodecJoined (written by gen_joined5.py).
-/
import Derived.Test.YtbceapeoknngnaaGreatDoorCp46
import Derived.Test.YtbceapeoknngnaaGreatDoorCp47
import Derived.Test.YtbceapeoknngnaaGreatDoorCp06
import Derived.Test.YtbceapeoknngnaaGreatDoorCp48
import Derived.Test.YtbceapeoknngnaaGreatDoorCp30
import Derived.Deep.Quiet
import Derived.Deep.RegionHeld3
set_option linter.unusedVariables false
namespace Go.Proofs.YtbceapeoknngnaaGreatDoor
open Go.RowKit
theorem own0u {w : World} {g base : Nat} {e : TypeId} {size : Nat} (hg : w.heap[g]? = some (.cells #[] e (0, 0))) (hb : base ≤ g) : w.ownsRow base e size (.slice (some ⟨g, 0, none⟩) 0 0) 0 [] :=
  ⟨by simp, .inr ⟨g, 0, #[], rfl, hb, hg, Nat.le_refl _, by unfold maxLen; omega, by simp, by simp⟩⟩
theorem lo_evo5 {wz W w5 : World} {v0 v5 : Value} (hU : Up wz W) (hev : Evo W w5 v0 v5) (h0 : ∀ j, v0.ownBlock = some j → wz.heap.size ≤ j) : ∀ j, v5.ownBlock = some j → wz.heap.size ≤ j := fun j hj => by
  rcases hev.place j hj with h | h
  · exact h0 j h
  · exact Nat.le_trans hU.size h
theorem box2 {w : World} {G : Nat} {p q x y : Value} {t : TypeId} (h : w.heap[G]? = some (.cells #[p, q] t (0, 0))) : ((w.setCell ⟨G, 0, none⟩ x).setCell ⟨G, 1, none⟩ y).heap[G]? = some (.cells #[x, y] t (0, 0)) := heap_setCell_same _ G 1 _ _ y (heap_setCell_same w G 0 _ _ x h)
/-- Bytes behind bytes: what Join tells of the two. -/
theorem parse_joinA {f : Fil} {msg : Int} {a : List UInt8} {y : Bod} (ha : (parseA f msg a).2 = 0) (hy : (bytesC f msg y).2 = 0) (h64 : B64 12 y) (hl : a.length + (bytesC f msg y).1.length ≤ 4000) : parseA f msg (a ++ (bytesC f msg y).1) = joinA f msg (parseA f msg a).1 y := by
  unfold joinA
  rw [if_neg (by rw [(parseA_right ha).1]; simp), if_neg (by rw [(bytesC_ok hy).1]; simp)]
  rcases parse_joined ha hy h64 hl with ⟨h1, h2⟩ | ⟨h1, h2⟩
  · rw [h1, h2]; rfl
  · rw [h1, h2]; rfl
theorem parseA_unkLe {f : Fil} {msg : Int} {l : List UInt8} (h : (parseA f msg l).2 = 0) : UnkLe 4000 12 (parseA f msg l).1 := by
  obtain ⟨h1, h2, h3, h4, h5, h6⟩ := parseA_ok h
  rw [h4]
  exact (read_unkLe h1 12 (Nat.le_refl _) msg l).mono (parse_right h6).1
theorem parseA_small (f : Fil) (msg : Int) (l : List UInt8) (h64 : B64 12 (parseA f msg l).1) (h : wrongA f msg (parseA f msg l).1 = 0) : (rawB f 12 msg (parseA f msg l).1).length ≤ 1099511627776 - 8200 := by
  have hw : wgt 12 (parseA f msg l).1 ≤ 100000 := by
    by_cases h0 : (parseA f msg l).2 = 0
    · exact (parseA_right h0).2
    · rw [parseA_err h0, wgt_zero]; omega
  have := raw_small h h64 hw
  omega
theorem eU8b : Elem Tryz.prog 32 5 1 1 (.int .u8 0) := ⟨Tryz.underlying32, info_parts (by kernel_rfl), rfl, by decide⟩
set_option maxRecDepth 100000 in
set_option maxHeartbeats 12800000 in
theorem joined5_any (v : Value) (f : Fil) (msg : Int) (va vb : Value) (a b : List UInt8) (w : World) (hf : FilV All w v f) (ha : RdB All w va a) (hb : RdB All w vb b) (hla : a.length ≤ 1099511627776) (hlb : b.length ≤ 1099511627776) (hT : Tabs w) :
    Calls Tryz.prog 9 #[v, .int .i64 msg, va, vb] w fun e w' => e = .returned (.bool true) ∧ Up w w' := by
  obtain ⟨vm, ve, rfl, hm, he⟩ := id hf
  obtain ⟨ma, mc, rfl, _, _⟩ := hm.val
  obtain ⟨ea, ec, rfl, _, _⟩ := he.val
  obtain ⟨aa, ac, rfl, _, _⟩ := ha.val
  obtain ⟨ba, bc, rfl, _, _⟩ := hb.val
  have Hf := Lib.hid hf; have Ha := Lib.hid ha; have Hb := Lib.hid hb; have HT := Lib.hid hT; have Hla := Lib.hid hla; have Hlb := Lib.hid hlb
  clear hf ha hb hT hm he hla hlb
  go_enter Tryz.func9, Tryz.ntmps9
  go_upto_region 1 with (fail)
  generalize hW : w.alloc (.cells #[.slice ma f.msgs.length mc, .slice ea f.enums.length ec] 25) = w1
  have hb0 : w1.heap[w.heap.size]? = some (.cells #[.slice ma f.msgs.length mc, .slice ea f.enums.length ec] 25 (0, 0)) := by rw [← hW]; exact blk_new w _ rfl
  have hu1 : Up w w1 := by rw [← hW]; exact (Up.refl w).alloc _
  have U1 := Lib.hid hu1; have HbB0 := Lib.hid hb0
  obtain ⟨B0, hB0⟩ : ∃ B, w.heap.size = B := ⟨_, rfl⟩
  rw [hB0] at HbB0 ⊢
  clear hW hb0 hu1 hB0
  go_upto_region 3 with (go_at_call 27; go_must (refine (alive_5 _ (HT.out.up U1.out)).mono ?_; rintro e w2 ⟨rfl, hu⟩))
  have U2 := Lib.hid hu
  clear hu
  have hsx := fun h => parseA_right (f := f) (msg := msg) (l := a) h
  have hux := fun h => parseA_unkLe (f := f) (msg := msg) (l := a) h
  have huy := fun h => parseA_unkLe (f := f) (msg := msg) (l := b) h
  have hsy := parseA_small f msg b
  have hjo := fun y h1 h2 h3 h4 => parse_joinA (f := f) (msg := msg) (a := a) (y := y) h1 h2 h3 h4
  have hpl := fun (h : (parseA f msg a).2 = 0) => (parse_right (parseA_ok h).2.2.2.2.2).1
  obtain ⟨RX, hRX⟩ : ∃ RX, parseA f msg a = RX := ⟨_, rfl⟩
  obtain ⟨RY, hRY⟩ : ∃ RY, parseA f msg b = RY := ⟨_, rfl⟩
  rw [hRX] at hsx hux hjo hpl
  rw [hRY] at hsy huy
  have HRX := Lib.hid hRX; have HRY := Lib.hid hRY
  obtain ⟨XB, xe⟩ := RX
  obtain ⟨YB, ye⟩ := RY
  simp only at hsx hux huy hsy hjo hpl
  have Hsx := Lib.hid hsx; have Hux := Lib.hid hux; have Huy := Lib.hid huy; have Hsy := Lib.hid hsy; have Hjo := Lib.hid hjo; have Hpl := Lib.hid hpl
  clear hRX hRY hsx hux huy hsy hjo hpl
  have f0 : w2.cell? ⟨B0, 0, none⟩ = some (.slice ma f.msgs.length mc) := cell_of_row _ _ 0 _ _ _ (U2.out.blk HbB0.out)
  have f1 : w2.cell? ⟨B0, 1, none⟩ = some (.slice ea f.enums.length ec) := cell_of_row _ _ 1 _ _ _ (U2.out.blk HbB0.out)
  have hpa := parse_c (.agg #[.slice ma f.msgs.length mc, .slice ea f.enums.length ec]) f msg (.slice aa a.length ac) a w2 (Hf.out.up (U1.out.trans U2.out)) (Ha.out.up stable_u8 (U1.out.trans U2.out)) Hla.out (HT.out.up (U1.out.trans U2.out))
  rw [HRX.out] at hpa
  have Hpa := Lib.hid hpa
  clear hpa
  go_upto_region 4 with (go_at_call 14; go_must (refine Hpa.out.mono ?_; rintro e w3 ⟨vv, vu, rfl, hd, hu⟩; obtain ⟨x1, xn, xc, x2, xm, xd, hbt⟩ := bod_two hd; simp only [List.cons.injEq, and_true] at hbt; obtain ⟨rfl, rfl⟩ := hbt))
  have U3 := Lib.hid hu; have hd3 := bod_all hd
  clear hu hd f0 f1 Hpa
  obtain ⟨BX, hBX⟩ : ∃ G, w3.heap.size = G := ⟨_, rfl⟩
  have hblk := blk_new w3 (.cells #[.slice x1 xn xc, .slice x2 xm xd] 29) (g := BX) hBX.symm
  have hua := (Up.refl w3).alloc (.cells #[.slice x1 xn xc, .slice x2 xm xd] 29)
  rw [hBX]
  generalize hwn : w3.alloc (.cells #[.slice x1 xn xc, .slice x2 xm xd] 29) = w4 at *
  have U4 := Lib.hid hua; have HbBX := Lib.hid hblk
  clear hwn hblk hua hBX
  have HD4 := Lib.hid (stable_bod 13 _ _ All _ _ _ (Keep.upS U4.out) hd3)
  clear hd3
  have f0 : w4.cell? ⟨B0, 0, none⟩ = some (.slice ma f.msgs.length mc) := cell_of_row _ _ 0 _ _ _ ((U2.out.trans (U3.out.trans U4.out)).blk HbB0.out)
  have f1 : w4.cell? ⟨B0, 1, none⟩ = some (.slice ea f.enums.length ec) := cell_of_row _ _ 1 _ _ _ ((U2.out.trans (U3.out.trans U4.out)).blk HbB0.out)
  have hpa := parse_c (.agg #[.slice ma f.msgs.length mc, .slice ea f.enums.length ec]) f msg (.slice ba b.length bc) b w4 (Hf.out.up (U1.out.trans (U2.out.trans (U3.out.trans U4.out)))) (Hb.out.up stable_u8 (U1.out.trans (U2.out.trans (U3.out.trans U4.out)))) Hlb.out (HT.out.up (U1.out.trans (U2.out.trans (U3.out.trans U4.out))))
  rw [HRY.out] at hpa
  have Hpa := Lib.hid hpa
  clear hpa
  go_upto_region 5 with (go_at_call 14; go_must (refine Hpa.out.mono ?_; rintro e w5 ⟨vv, vu, rfl, hd, hu⟩; obtain ⟨y1, yn, yc, y2, ym, yd, hbt⟩ := bod_two hd; simp only [List.cons.injEq, and_true] at hbt; obtain ⟨rfl, rfl⟩ := hbt))
  have U5 := Lib.hid hu; have hd5 := bod_all hd
  clear hu hd f0 f1 Hpa
  obtain ⟨BY, hBY⟩ : ∃ G, w5.heap.size = G := ⟨_, rfl⟩
  have hblk := blk_new w5 (.cells #[.slice y1 yn yc, .slice y2 ym yd] 29) (g := BY) hBY.symm
  have hua := (Up.refl w5).alloc (.cells #[.slice y1 yn yc, .slice y2 ym yd] 29)
  rw [hBY]
  generalize hwn : w5.alloc (.cells #[.slice y1 yn yc, .slice y2 ym yd] 29) = w6 at *
  have U6 := Lib.hid hua; have HbBY := Lib.hid hblk
  clear hwn hblk hua hBY
  have HD6 := Lib.hid (stable_bod 13 _ _ All _ _ _ (Keep.upS U6.out) hd5)
  clear hd5
  have f0 : w6.cell? ⟨B0, 0, none⟩ = some (.slice ma f.msgs.length mc) := cell_of_row _ _ 0 _ _ _ ((U2.out.trans (U3.out.trans (U4.out.trans (U5.out.trans U6.out)))).blk HbB0.out)
  have f1 : w6.cell? ⟨B0, 1, none⟩ = some (.slice ea f.enums.length ec) := cell_of_row _ _ 1 _ _ _ ((U2.out.trans (U3.out.trans (U4.out.trans (U5.out.trans U6.out)))).blk HbB0.out)
  have y00 : w6.cell? ⟨BY, 0, none⟩ = some (.slice y1 yn yc) := cell_of_row _ _ 0 _ _ _ ((Up.refl _).blk HbBY.out)
  have y01 : w6.cell? ⟨BY, 1, none⟩ = some (.slice y2 ym yd) := cell_of_row _ _ 1 _ _ _ ((Up.refl _).blk HbBY.out)
  have h64 := b64_of 13 HD6.out 12
  have H64 := Lib.hid h64
  obtain ⟨CC, hCC⟩ : ∃ CC, bytesC f msg YB = CC := ⟨_, rfl⟩
  have HCC := Lib.hid hCC
  have hcl := fun (h : (bytesC f msg YB).2 = 0) => bytesC_ok h
  have hj2 := fun h1 h2 h3 => Hjo.out YB h1 h2 H64.out h3
  rw [hCC] at hcl hj2
  have hby := bytes_c 13 (.agg #[.slice ma f.msgs.length mc, .slice ea f.enums.length ec]) (.slice y1 yn yc) (.slice y2 ym yd) f msg YB w6 (Hf.out.up (U1.out.trans (U2.out.trans (U3.out.trans (U4.out.trans (U5.out.trans U6.out)))))) (stable_bod 13 _ _ All _ _ _ (Keep.upS (Up.refl _)) HD6.out) (HT.out.up (U1.out.trans (U2.out.trans (U3.out.trans (U4.out.trans (U5.out.trans U6.out)))))) (Hsy.out H64.out)
  rw [hCC] at hby
  obtain ⟨CC, ce⟩ := CC
  simp only at hby hcl hj2
  have Hby := Lib.hid hby; have Hcl := Lib.hid hcl; have Hj2 := Lib.hid hj2
  clear hby hcl hj2 hCC h64 Hjo Hsy
  go_upto_region 6 with (go_at_call 13; go_must (refine Hby.out.mono ?_; rintro e w7 ⟨vx7, rfl, how, hu⟩; obtain ⟨pa7, pc7, rfl⟩ := own_val how))
  have U7 := Lib.hid hu; have HP7 := Lib.hid (rdB_of_owns (S := All) how (fun _ _ => trivial))
  clear hu how f0 f1 y00 y01 Hby
  by_cases hxe : xe = 0
  rotate_left
  · have hne : (xe != 0) = true := by rw [bne_iff_ne]; exact hxe
    clear hxe
    go_wp2_with fail
    go_ret
    exact ⟨rfl, (U1.out.trans (U2.out.trans (U3.out.trans (U4.out.trans (U5.out.trans (U6.out.trans U7.out))))))⟩
  subst hxe
  by_cases hye : ye = 0
  rotate_left
  · have hne : (ye != 0) = true := by rw [bne_iff_ne]; exact hye
    clear hye
    go_wp2_with fail
    go_ret
    exact ⟨rfl, (U1.out.trans (U2.out.trans (U3.out.trans (U4.out.trans (U5.out.trans (U6.out.trans U7.out))))))⟩
  subst hye
  by_cases hce : ce = 0
  rotate_left
  · have hne : (ce != 0) = true := by rw [bne_iff_ne]; exact hce
    clear hce
    go_wp2_with fail
    go_ret
    exact ⟨rfl, (U1.out.trans (U2.out.trans (U3.out.trans (U4.out.trans (U5.out.trans (U6.out.trans U7.out))))))⟩
  subst hce
  obtain ⟨MX, hMX⟩ : ∃ MX, mixedN f = MX := ⟨_, rfl⟩
  have hmx := mixed_r (.agg #[.slice ma f.msgs.length mc, .slice ea f.enums.length ec]) f w7 (Hf.out.up (U1.out.trans (U2.out.trans (U3.out.trans (U4.out.trans (U5.out.trans (U6.out.trans U7.out)))))))
  rw [hMX] at hmx
  have Hmx := Lib.hid hmx
  clear hmx hMX
  have f0 : w7.cell? ⟨B0, 0, none⟩ = some (.slice ma f.msgs.length mc) := cell_of_row _ _ 0 _ _ _ ((U2.out.trans (U3.out.trans (U4.out.trans (U5.out.trans (U6.out.trans U7.out))))).blk HbB0.out)
  have f1 : w7.cell? ⟨B0, 1, none⟩ = some (.slice ea f.enums.length ec) := cell_of_row _ _ 1 _ _ _ ((U2.out.trans (U3.out.trans (U4.out.trans (U5.out.trans (U6.out.trans U7.out))))).blk HbB0.out)
  have hla4 := Hpl.out (by trivial)
  have hcc4 : CC.length ≤ 4000 := by rw [(Hcl.out (by trivial)).2.1]; exact (Hcl.out (by trivial)).2.2
  have hs : RowKit.wrap64 ((a.length : Int) + (CC.length : Int)) = ((a.length + CC.length : Nat) : Int) := by unfold RowKit.wrap64; omega
  cases MX with
  | true =>
    go_wp2_with (go_at_call 33; go_must (refine Hmx.out.mono ?_; rintro e w8 ⟨rfl, hu⟩))
    go_ret
    exact ⟨rfl, (U1.out.trans (U2.out.trans (U3.out.trans (U4.out.trans (U5.out.trans (U6.out.trans U7.out)))))).trans hu⟩
  | false =>
  by_cases h4 : 4000 < a.length + CC.length
  · go_wp2_with (go_at_call 33; go_must (refine Hmx.out.mono ?_; rintro e w8 ⟨rfl, hu⟩))
    go_ret
    exact ⟨rfl, (U1.out.trans (U2.out.trans (U3.out.trans (U4.out.trans (U5.out.trans (U6.out.trans U7.out)))))).trans hu⟩
  go_upto_region 8 with (go_at_call 33; go_must (refine Hmx.out.mono ?_; rintro e w8 ⟨rfl, hu⟩))
  have U8 := Lib.hid hu
  clear hu f0 f1 Hmx hs
  obtain ⟨JJ, hJJ⟩ : ∃ JJ, joinA f msg XB YB = JJ := ⟨_, rfl⟩
  have HJJ := Lib.hid hJJ
  have hpj := Hj2.out (by trivial) (by trivial) (by omega)
  rw [hJJ] at hpj
  have HPJ := Lib.hid hpj
  clear hJJ hpj Hj2
  obtain ⟨JB, je⟩ := JJ
  have H4 := Lib.hid h4; have Hla4 := Lib.hid hla4; have Hcc4 := Lib.hid hcc4
  clear h4 hla4 hcc4
  have Hpj := Lib.hid (fun W (u : Up w8 W) va' (hr : RdB All W va' (a ++ CC)) => by have h := parse_c (.agg #[.slice ma f.msgs.length mc, .slice ea f.enums.length ec]) f msg va' (a ++ CC) W (Hf.out.up ((U1.out.trans (U2.out.trans (U3.out.trans (U4.out.trans (U5.out.trans (U6.out.trans (U7.out.trans U8.out))))))).trans u)) hr (by have := Hla4.out; have := Hcc4.out; rw [List.length_append]; omega) (HT.out.up ((U1.out.trans (U2.out.trans (U3.out.trans (U4.out.trans (U5.out.trans (U6.out.trans (U7.out.trans U8.out))))))).trans u)); rw [HPJ.out] at h; exact h)
  have Hn1 := Lib.hid (fun W (u : Up w8 W) => RdB.news (Ha.out.up stable_u8 ((U1.out.trans (U2.out.trans (U3.out.trans (U4.out.trans (U5.out.trans (U6.out.trans (U7.out.trans U8.out))))))).trans u)))
  have Hn2 := Lib.hid (fun W (u : Up w8 W) => RdB.news (HP7.out.up stable_u8 (U8.out.trans u)))
  have HBB := Lib.hid (fun W (u : Up w8 W) => (⟨cell_of_row W _ 0 _ _ _ (((U2.out.trans (U3.out.trans (U4.out.trans (U5.out.trans (U6.out.trans (U7.out.trans U8.out)))))).trans u).blk HbB0.out), cell_of_row W _ 1 _ _ _ (((U2.out.trans (U3.out.trans (U4.out.trans (U5.out.trans (U6.out.trans (U7.out.trans U8.out)))))).trans u).blk HbB0.out)⟩ : W.cell? ⟨B0, 0, none⟩ = some (.slice ma f.msgs.length mc) ∧ W.cell? ⟨B0, 1, none⟩ = some (.slice ea f.enums.length ec)))
  have dd : w8.drew.cell? ⟨B0, 0, none⟩ = some (.slice ma f.msgs.length mc) ∧ w8.drew.cell? ⟨B0, 1, none⟩ = some (.slice ea f.enums.length ec) := HBB.out w8 (Up.refl _)
  have HA : Hid True := Lib.hid trivial
  simp only at Hpj
  go_cut [15, 10] (fun p e wc => ∃ X t1 tn tc t2 tm td, p = .pointer (some ⟨X, 0, none⟩) ∧ e = .int .i64 je ∧ Up w8 wc ∧ wc.heap[X]? = some (.cells #[.slice t1 tn tc, .slice t2 tm td] 29 (0, 0)) ∧ DBodF 13 All wc JB [.slice t1 tn tc, .slice t2 tm td])
  case first =>
    --[
    go_region_held3 (fun w' => w'.cell? ⟨B0, 0, none⟩ = some (.slice ma f.msgs.length mc) ∧ w'.cell? ⟨B0, 1, none⟩ = some (.slice ea f.enums.length ec))
      (first | with_reducible exact dd | exact HBB.out _ (by repeat (first | (with_reducible assumption) | (with_reducible exact Up.refl _) | (with_reducible refine Up.alloc ?_ _) | (with_reducible refine Up.drew ?_) | (with_reducible refine Up.setCell ?_ (by first | exact HG.out.2 | omega | (simp; omega)) _))))
      (first
        | (have hx := HA.out; clear HA; refine step_app eU8b _ (by rfl) _ _ (by rfl) w8.heap.size _ 0 [] (by rfl) (own0u (by first | exact blk_new _ _ (by first | rfl | simp) | exact blk_old _ (blk_new _ _ (by first | rfl | simp))) (by first | omega | (simp; omega) | simp)) aa a.length ac (by rfl) (B8 a) (by simp [B8]) (Hn1.out w8 (Up.refl _)).2.1 ((Hn1.out _ (by repeat (first | (with_reducible assumption) | (with_reducible exact Up.refl _) | (with_reducible refine Up.alloc ?_ _) | (with_reducible refine Up.drew ?_) | (with_reducible refine Up.setCell ?_ (by first | exact HG.out.2 | omega | (simp; omega)) _)))).2.2) (B8_one _) (by have := Hla4.out; omega) (by have := Hla4.out; unfold maxLen; omega) (by first | omega | (simp; omega) | simp) ?_; intro v5 w5 how5 hev5; have HLo := Lib.hid (lo_evo5 (wz := w8) (by repeat (first | (with_reducible assumption) | (with_reducible exact Up.refl _) | (with_reducible refine Up.alloc ?_ _) | (with_reducible refine Up.drew ?_) | (with_reducible refine Up.setCell ?_ (by first | exact HG.out.2 | omega | (simp; omega)) _))) hev5 (fun j hj => by simp [Value.ownBlock] at hj; first | omega | (subst hj; simp) | (subst hj; simp; omega))); have UP5 : Up w8 w5 := Up.evo (show Up w8 _ from (by repeat (first | (with_reducible assumption) | (with_reducible exact Up.refl _) | (with_reducible refine Up.alloc ?_ _) | (with_reducible refine Up.drew ?_) | (with_reducible refine Up.setCell ?_ (by first | exact HG.out.2 | omega | (simp; omega)) _)))) hev5 (fun j hj => by simp [Value.ownBlock] at hj; first | omega | (subst hj; simp) | (subst hj; simp; omega)); simp only [Nat.zero_add, List.nil_append] at how5; have How5 := Lib.hid how5; have HX5 := Lib.hid (fun (G : Nat) (o : Obj) hb hne => Evo.blk hev5 (b := G) (o := o) hb hne); have HP5 := Lib.hid hev5.place; have s5 := UP5.size; clear how5 hev5)
        | (refine step_app eU8b _ (by rfl) _ _ (by rfl) w8.heap.size _ _ _ (by rfl) (by first | exact How5.out | exact How5.out.alloc _) pa7 CC.length pc7 (by rfl) (B8 CC) (by simp [B8]) (Hn2.out w8 (Up.refl _)).2.1 ((Hn2.out _ (by repeat (first | (with_reducible assumption) | (with_reducible exact Up.refl _) | (with_reducible refine Up.alloc ?_ _) | (with_reducible refine Up.drew ?_) | (with_reducible refine Up.setCell ?_ (by first | exact HG.out.2 | omega | (simp; omega)) _)))).2.2) (B8_one _) (by have := Hla4.out; have := Hcc4.out; omega) (by have := Hla4.out; have := Hcc4.out; unfold maxLen; omega) (by have := UP5.size; first | omega | (simp; omega)) ?_; intro v6 w6 how6 hev6; have UP6 : Up w8 w6 := Up.evo (show Up w8 _ from (by repeat (first | (with_reducible assumption) | (with_reducible exact Up.refl _) | (with_reducible refine Up.alloc ?_ _) | (with_reducible refine Up.drew ?_) | (with_reducible refine Up.setCell ?_ (by first | exact HG.out.2 | omega | (simp; omega)) _)))) hev6 (fun j hj => HLo.out j hj); have hr6 : RdB All w6 v6 (a ++ CC) := (rdB_of_owns (by rw [List.length_append, B8_append]; exact how6) (fun _ _ => trivial)); have Hr6 := Lib.hid hr6; have HX6 := Lib.hid (fun (G : Nat) (o : Obj) hb hne => Evo.blk hev6 (b := G) (o := o) hb hne); have s6 := UP6.size; clear hr6 how6 hev6)
        | (go_at_call 14; refine (Hpj.out _ (by repeat (first | (with_reducible assumption) | (with_reducible exact Up.refl _) | (with_reducible refine Up.alloc ?_ _) | (with_reducible refine Up.drew ?_) | (with_reducible refine Up.setCell ?_ (by first | exact HG.out.2 | omega | (simp; omega)) _))) _ (by first | exact Hr6.out | exact Hr6.out.up stable_u8 ((Up.refl _).alloc _))).mono ?_; rintro e w9 ⟨vv, vu, rfl, hd, hu9⟩; obtain ⟨t1, tn, tc, t2, tm, td, hbt⟩ := bod_two hd; simp only [List.cons.injEq, and_true] at hbt; obtain ⟨rfl, rfl⟩ := hbt; have UP9 : Up w8 w9 := Up.trans (show Up w8 _ from (by repeat (first | (with_reducible assumption) | (with_reducible exact Up.refl _) | (with_reducible refine Up.alloc ?_ _) | (with_reducible refine Up.drew ?_) | (with_reducible refine Up.setCell ?_ (by first | exact HG.out.2 | omega | (simp; omega)) _)))) hu9; have Hd9 := Lib.hid hd; have s9 := UP9.size; (first | (have q0 := HX6.out (w8.heap.size) (.cells #[.slice none 0 0, .slice none 0 0] 29) (HX5.out (w8.heap.size) (.cells #[.slice none 0 0, .slice none 0 0] 29) (blk_old _ (blk_new _ _ (by rfl))) (by simp [Value.ownBlock])) (fun e => by have h := HP5.out _ e; simp [Value.ownBlock] at h; omega); have gW := Lib.hid (lt_of_block q0); have q : w9.heap[w8.heap.size]? = some (.cells #[.slice none 0 0, .slice none 0 0] 29) := hu9.blk q0; clear q0; have HG := Lib.hid (show w9.heap[w8.heap.size]? = some (.cells #[.slice none 0 0, .slice none 0 0] 29) ∧ w8.heap.size ≤ w8.heap.size from ⟨q, by omega⟩); have g0 := cell_of_row w9 _ 0 _ _ _ q; have g1 := cell_of_row w9 _ 1 _ _ _ q; have gf := (fun o => frozen_of_row w9 _ o _ _ q); have gz := lt_of_block q; clear q) | (have q0 := HX6.out (w8.heap.size + 1) (.cells #[.slice none 0 0, .slice none 0 0] 29) (HX5.out (w8.heap.size + 1) (.cells #[.slice none 0 0, .slice none 0 0] 29) (blk_new _ _ (by simp)) (by simp [Value.ownBlock])) (fun e => by have h := HP5.out _ e; simp [Value.ownBlock] at h; omega); have gW := Lib.hid (lt_of_block q0); have q : w9.heap[w8.heap.size + 1]? = some (.cells #[.slice none 0 0, .slice none 0 0] 29) := hu9.blk q0; clear q0; have HG := Lib.hid (show w9.heap[w8.heap.size + 1]? = some (.cells #[.slice none 0 0, .slice none 0 0] 29) ∧ w8.heap.size ≤ w8.heap.size + 1 from ⟨q, by omega⟩); have g0 := cell_of_row w9 _ 0 _ _ _ q; have g1 := cell_of_row w9 _ 1 _ _ _ q; have gf := (fun o => frozen_of_row w9 _ o _ _ q); have gz := lt_of_block q; clear q) | (have q0 := HX6.out w5.heap.size (.cells #[.slice none 0 0, .slice none 0 0] 29) (blk_new w5 _ rfl) (fun e => by have := (How5.out.lt _ e).2; omega); have gW := Lib.hid (lt_of_block q0); have q : w9.heap[w5.heap.size]? = some (.cells #[.slice none 0 0, .slice none 0 0] 29) := hu9.blk q0; clear q0; have HG := Lib.hid (show w9.heap[w5.heap.size]? = some (.cells #[.slice none 0 0, .slice none 0 0] 29) ∧ w8.heap.size ≤ w5.heap.size from ⟨q, by omega⟩); have g0 := cell_of_row w9 _ 0 _ _ _ q; have g1 := cell_of_row w9 _ 1 _ _ _ q; have gf := (fun o => frozen_of_row w9 _ o _ _ q); have gz := lt_of_block q; clear q) | (have q0 := blk_new w6 (.cells #[.slice none 0 0, .slice none 0 0] 29) rfl; have gW := Lib.hid (lt_of_block q0); have q : w9.heap[w6.heap.size]? = some (.cells #[.slice none 0 0, .slice none 0 0] 29) := hu9.blk q0; clear q0; have HG := Lib.hid (show w9.heap[w6.heap.size]? = some (.cells #[.slice none 0 0, .slice none 0 0] 29) ∧ w8.heap.size ≤ w6.heap.size from ⟨q, by omega⟩); have g0 := cell_of_row w9 _ 0 _ _ _ q; have g1 := cell_of_row w9 _ 1 _ _ _ q; have gf := (fun o => frozen_of_row w9 _ o _ _ q); have gz := lt_of_block q; clear q) | skip); clear hd hu9))
    all_goals
      go_wp2_with fail
      go_meet
      first
        | exact ⟨w9.heap.size, _, _, _, _, _, _, rfl, rfl, UP9.alloc _, blk_new w9 _ rfl, stable_bod 13 _ _ All _ _ _ (Keep.trans (Keep.alloc _) Keep.all) Hd9.out⟩
        | exact ⟨_, _, _, _, _, _, _, rfl, rfl, (by repeat (first | (with_reducible assumption) | (with_reducible exact Up.refl _) | (with_reducible refine Up.alloc ?_ _) | (with_reducible refine Up.drew ?_) | (with_reducible refine Up.setCell ?_ (by first | exact HG.out.2 | omega | (simp; omega)) _))), box2 HG.out.1, stable_bod 13 _ _ All _ _ _ ((Keep.setCell (fun h => absurd h (Nat.not_le.2 gW.out)) _).trans ((Keep.setCell (fun h => absurd h (Nat.not_le.2 gW.out)) _).trans Keep.all)) Hd9.out⟩
    --]
  case rest =>
  obtain ⟨BP, t1, tn, tc, t2, tm, td, rfl, rfl, hu, hb, hd⟩ := hcut
  obtain ⟨w10, rfl⟩ : ∃ y : World, y = wc := ⟨_, rfl⟩
  have U10 := Lib.hid hu; have HbBP := Lib.hid hb; have HD10 := Lib.hid hd
  clear hu hb hd dd HA Hn1 Hn2 HBB Hpj
  have f0 : w10.cell? ⟨B0, 0, none⟩ = some (.slice ma f.msgs.length mc) := cell_of_row _ _ 0 _ _ _ ((U2.out.trans (U3.out.trans (U4.out.trans (U5.out.trans (U6.out.trans (U7.out.trans (U8.out.trans U10.out))))))).blk HbB0.out)
  have f1 : w10.cell? ⟨B0, 1, none⟩ = some (.slice ea f.enums.length ec) := cell_of_row _ _ 1 _ _ _ ((U2.out.trans (U3.out.trans (U4.out.trans (U5.out.trans (U6.out.trans (U7.out.trans (U8.out.trans U10.out))))))).blk HbB0.out)
  have xf0 : w10.cell? ⟨BX, 0, none⟩ = some (.slice x1 xn xc) := cell_of_row _ _ 0 _ _ _ ((U5.out.trans (U6.out.trans (U7.out.trans (U8.out.trans U10.out)))).blk HbBX.out)
  have xf1 : w10.cell? ⟨BX, 1, none⟩ = some (.slice x2 xm xd) := cell_of_row _ _ 1 _ _ _ ((U5.out.trans (U6.out.trans (U7.out.trans (U8.out.trans U10.out)))).blk HbBX.out)
  have yf0 : w10.cell? ⟨BY, 0, none⟩ = some (.slice y1 yn yc) := cell_of_row _ _ 0 _ _ _ ((U7.out.trans (U8.out.trans U10.out)).blk HbBY.out)
  have yf1 : w10.cell? ⟨BY, 1, none⟩ = some (.slice y2 ym yd) := cell_of_row _ _ 1 _ _ _ ((U7.out.trans (U8.out.trans U10.out)).blk HbBY.out)
  have hj := join_any 4000 13 (by decide) f (.agg #[.slice ma f.msgs.length mc, .slice ea f.enums.length ec]) (.slice x1 xn xc) (.slice x2 xm xd) (.slice y1 yn yc) (.slice y2 ym yd) msg XB YB w10 (Hf.out.up (U1.out.trans (U2.out.trans (U3.out.trans (U4.out.trans (U5.out.trans (U6.out.trans (U7.out.trans (U8.out.trans U10.out))))))))) (stable_bod 13 _ _ All _ _ _ (Keep.upS (U5.out.trans (U6.out.trans (U7.out.trans (U8.out.trans U10.out))))) HD4.out) (stable_bod 13 _ _ All _ _ _ (Keep.upS (U7.out.trans (U8.out.trans U10.out))) HD6.out) (HT.out.up (U1.out.trans (U2.out.trans (U3.out.trans (U4.out.trans (U5.out.trans (U6.out.trans (U7.out.trans (U8.out.trans U10.out))))))))) (Hux.out (by trivial)) (Huy.out (by trivial))
  rw [HJJ.out] at hj
  have Hj := Lib.hid hj
  clear hj
  go_upto_region 10 with (go_at_call 34; go_must (refine Hj.out.mono ?_; rintro e w11 ⟨vv, vu, rfl, hd, hu⟩; obtain ⟨j1, jn, jc, j2, jm, jd, hbt⟩ := bod_two hd; simp only [List.cons.injEq, and_true] at hbt; obtain ⟨rfl, rfl⟩ := hbt))
  have U11 := Lib.hid hu; have hd11 := bod_all hd
  clear hu hd f0 f1 xf0 xf1 yf0 yf1 Hj
  obtain ⟨BJ, hBJ⟩ : ∃ G, w11.heap.size = G := ⟨_, rfl⟩
  have hblk := blk_new w11 (.cells #[.slice j1 jn jc, .slice j2 jm jd] 29) (g := BJ) hBJ.symm
  have hua := (Up.refl w11).alloc (.cells #[.slice j1 jn jc, .slice j2 jm jd] 29)
  rw [hBJ]
  generalize hwn : w11.alloc (.cells #[.slice j1 jn jc, .slice j2 jm jd] 29) = w12 at *
  have U12 := Lib.hid hua; have HbBJ := Lib.hid hblk
  clear hwn hblk hua hBJ
  have HD12 := Lib.hid (stable_bod 13 _ _ All _ _ _ (Keep.upS U12.out) hd11)
  clear hd11
  have tf0 : w12.cell? ⟨BP, 0, none⟩ = some (.slice t1 tn tc) := cell_of_row _ _ 0 _ _ _ ((U11.out.trans U12.out).blk HbBP.out)
  have tf1 : w12.cell? ⟨BP, 1, none⟩ = some (.slice t2 tm td) := cell_of_row _ _ 1 _ _ _ ((U11.out.trans U12.out).blk HbBP.out)
  have jf0 : w12.cell? ⟨BJ, 0, none⟩ = some (.slice j1 jn jc) := cell_of_row _ _ 0 _ _ _ ((Up.refl _).blk HbBJ.out)
  have jf1 : w12.cell? ⟨BJ, 1, none⟩ = some (.slice j2 jm jd) := cell_of_row _ _ 1 _ _ _ ((Up.refl _).blk HbBJ.out)
  have Hsm := Lib.hid (same_b 13 JB _ _ _ _ w12 (stable_bod 13 _ _ All _ _ _ (Keep.upS (U11.out.trans U12.out)) HD10.out) HD12.out)
  go_wp2_with (go_at_call 20; go_must (refine Hsm.out.mono ?_; rintro e w13 ⟨rfl, hu⟩))
  go_ret
  exact ⟨rfl, (U1.out.trans (U2.out.trans (U3.out.trans (U4.out.trans (U5.out.trans (U6.out.trans (U7.out.trans (U8.out.trans (U10.out.trans (U11.out.trans U12.out)))))))))).trans hu⟩
end Go.Proofs.YtbceapeoknngnaaGreatDoor
