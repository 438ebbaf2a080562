/-
  The law CodecUnknown.
-/
import Derived.Test.YtbceapeoknngnaaGreatDoorCp46
import Derived.Test.YtbceapeoknngnaaGreatDoorCp48
import Derived.Test.YtbceapeoknngnaaGreatDoorCp12
import Derived.Test.YtbceapeoknngnaaGreatDoorCp03
import Derived.Deep.Quiet
set_option linter.unusedVariables false
namespace Go.Proofs.YtbceapeoknngnaaGreatDoor
open Go.RowKit
set_option maxRecDepth 100000 in
set_option maxHeartbeats 6400000 in
theorem unknown_any (v : Value) (f : Fil) (msg : Int) (vb : Value) (l : List UInt8) (w : World) (hf : FilV All w v f) (hr : RdB All w vb l) (hll : l.length ≤ 1099511627776) (hT : Tabs w) :
    Calls Tryz.prog 8 #[v, .int .i64 msg, vb] w fun e w' => e = .returned (.bool true) ∧ Up w w' := by
  obtain ⟨vm, ve, rfl, hm, he⟩ := id hf
  obtain ⟨ma, mc, rfl, _, _⟩ := hm.val
  obtain ⟨ea, ec, rfl, _, _⟩ := he.val
  obtain ⟨la, lc, rfl, _, _⟩ := hr.val
  have Hf := Lib.hid hf; have Hr := Lib.hid hr; have HT := Lib.hid hT; have Hll := Lib.hid hll; have Hm := Lib.hid hm
  clear hf hr hT hm he hll
  have Hal := Lib.hid (fun W (u : Up w W) => alive_5 W (HT.out.up u))
  have Hpa := Lib.hid (fun W (u : Up w W) => parse_c (.agg #[.slice ma f.msgs.length mc, .slice ea f.enums.length ec]) f msg (.slice la l.length lc) l W (Hf.out.up u) (Hr.out.up stable_u8 u) Hll.out (HT.out.up u))
  have Hwp := Lib.hid (fun W (u : Up w W) => parse_any (.slice la l.length lc) l W (Hr.out.up stable_u8 u))
  have hb0 := blk_new w (.cells #[.slice ma f.msgs.length mc, .slice ea f.enums.length ec] 25) (g := w.heap.size) rfl
  have Hb0 := Lib.hid hb0
  have HC := Lib.hid (fun W (u : Up (w.alloc (.cells #[.slice ma f.msgs.length mc, .slice ea f.enums.length ec] 25)) W) => (⟨cell_of_row W _ 0 _ _ _ (u.blk hb0), cell_of_row W _ 1 _ _ _ (u.blk hb0)⟩ : W.cell? ⟨w.heap.size, 0, none⟩ = some (.slice ma f.msgs.length mc) ∧ W.cell? ⟨w.heap.size, 1, none⟩ = some (.slice ea f.enums.length ec)))
  clear hb0
  go_enter Tryz.func8, Tryz.ntmps8
  go_upto_region 3 with (go_at_call 27; go_must (refine (Hal.out _ ((Up.refl w).alloc _)).mono ?_; rintro e w1 ⟨rfl, hu1⟩))
  have Hu1 := Lib.hid hu1
  have c0 := (HC.out w1 hu1).1
  have c1 := (HC.out w1 hu1).2
  clear hu1 Hal
  obtain ⟨RC, hRC⟩ : ∃ RC, parseA f msg l = RC := ⟨_, rfl⟩
  rw [hRC] at Hpa
  have HRC := Lib.hid hRC
  clear hRC
  go_upto_region 4 with (go_at_call 14; go_must (refine (Hpa.out _ (((Up.refl w).alloc _).trans Hu1.out)).mono ?_; rintro e w2 ⟨vv, vu, rfl, hd2, hu2⟩; obtain ⟨s1, n1, d1, s2, n2, d2, hbt⟩ := bod_two hd2; simp only [List.cons.injEq, and_true] at hbt; obtain ⟨rfl, rfl⟩ := hbt))
  have hbX := blk_new w2 (.cells #[.slice s1 n1 d1, .slice s2 n2 d2] 29) (g := w2.heap.size) rfl
  have hd3 := stable_bod 13 _ _ All _ _ _ (fun q _ hq => ⟨((Up.refl w2).alloc (.cells #[.slice s1 n1 d1, .slice s2 n2 d2] 29)).block q hq, trivial⟩) hd2
  have hu3 := (Hu1.out.trans hu2).alloc (.cells #[.slice s1 n1 d1, .slice s2 n2 d2] 29)
  generalize w2.alloc (.cells #[.slice s1 n1 d1, .slice s2 n2 d2] 29) = w3 at *
  generalize w2.heap.size = X at *
  have HbX := Lib.hid hbX; have Hd3 := Lib.hid hd3; have Hu3 := Lib.hid hu3
  clear hbX hd2 hd3 hu2 hu3 c0 c1 Hpa
  obtain ⟨PE, hPE⟩ : ∃ PE, (parse l).2.1 = PE := ⟨_, rfl⟩
  obtain ⟨PA, hPA⟩ : ∃ PA, (parse l).2.2 = PA := ⟨_, rfl⟩
  obtain ⟨L, hL⟩ : ∃ L, (parse l).1 = L := ⟨_, rfl⟩
  rw [hPE, hPA, hL] at Hwp
  have HPE := Lib.hid hPE; have HL := Lib.hid hL
  clear hPE hPA hL
  go_upto_region 5 with (go_at_call 30; go_must (refine (Hwp.out _ (((Up.refl w).alloc _).trans Hu3.out)).mono ?_; rintro e w4 ⟨v4, rfl, how4, hu4⟩))
  have hrl := how4.rd (S' := All) stable_rec (fun _ _ => trivial) (fun _ _ => trivial)
  obtain ⟨ra, rc, rfl, _, _⟩ := hrl.val
  have hux := hu4.alloc (.cells #[.int .i64 PE, .int .i64 (PA : Int)] 67)
  have hbY := blk_new w4 (.cells #[.int .i64 PE, .int .i64 (PA : Int)] 67) (g := w4.heap.size) rfl
  have hrl5 := hrl.up stable_rec ((Up.refl w4).alloc (.cells #[.int .i64 PE, .int .i64 (PA : Int)] 67))
  generalize w4.alloc (.cells #[.int .i64 PE, .int .i64 (PA : Int)] 67) = w5 at *
  generalize w4.heap.size = Y at *
  have y0 : w5.cell? ⟨Y, 0, none⟩ = some (.int .i64 PE) := cell_of_row w5 _ 0 _ _ _ hbY
  have Hrl := Lib.hid hrl5; have Hu5 := Lib.hid (Hu3.out.trans hux); have HbX5 := Lib.hid (hux.blk HbX.out); have Hd5 := Lib.hid (stable_bod 13 _ _ _ _ _ _ (Keep.upS hux) Hd3.out)
  clear hrl hrl5 how4 hu4 hux hbY Hwp HbX Hd3
  obtain ⟨RB, re⟩ := RC
  simp only at Hd5
  by_cases hre : re = 0
  rotate_left
  · have hne : (re != 0) = true := by rw [bne_iff_ne]; exact hre
    have Hu05 := Lib.hid (((Up.refl w).alloc _).trans Hu5.out)
    clear hre
    go_wp2_with fail
    go_ret
    exact ⟨rfl, Hu05.out⟩
  subst hre
  have hpo := HRC.out
  have hp2 : (parseA f msg l).2 = 0 := by rw [hpo]
  obtain ⟨g1, g2, g3, g4, g5, g6⟩ := parseA_ok hp2
  obtain rfl : PE = 0 := by rw [← HPE.out]; exact g6
  obtain ⟨mi, rfl⟩ : ∃ mi : Nat, msg = mi := ⟨msg.toNat, by omega⟩
  have hmi : mi < f.msgs.length := by omega
  have hrt := parseA_right hp2
  have hun := parseA_unk hp2 hmi
  rw [hpo, HL.out] at hun
  rw [hpo] at hrt
  simp only at hrt hun
  obtain ⟨mb, mo, cs, rfl, _, _, hcs, hd⟩ := Hm.out.at hmi
  obtain ⟨vf, vb', hd, hfs, hbs, hnm⟩ := hd
  subst hd
  obtain ⟨fa, fc, rfl, _, _⟩ := hfs.val
  obtain ⟨ba, bc, rfl, _, _⟩ := hbs.val
  have s0 := hcs 0 _ rfl; have s1 := hcs 1 _ rfl; have s2 := hcs 2 _ rfl
  simp only [Nat.add_zero] at s0
  have hL4 : L.length ≤ 4000 := by
    have h1 := (parse_right g6).2.2
    have h2 := (parse_right g6).1
    have h3 := len_flat (l := (parse l).1)
    rw [HL.out] at h1 h3
    omega
  have Hu05 := Lib.hid (((Up.refl w).alloc _).trans Hu5.out)
  have Hrt := Lib.hid hrt; have Hun := Lib.hid hun; have Hfs := Lib.hid hfs
  have Hs := Lib.hid (⟨s0, s1, s2⟩ : w.cell? ⟨mb, mo + mi * 3, none⟩ = some (.string ⟨(f.msgs[mi]).name.toArray⟩) ∧ w.cell? ⟨mb, mo + mi * 3 + 1, none⟩ = some (.slice fa (f.msgs[mi]).fields.length fc) ∧ w.cell? ⟨mb, mo + mi * 3 + 2, none⟩ = some (.slice ba (f.msgs[mi]).barred.length bc))
  clear hpo hp2 g1 g4 g5 g6 hrt hun hcs hfs hbs hnm s0 s1 s2 HRC
  generalize f.msgs[mi] = m at *
  have hm2 : (mi : Int) < (f.msgs.length : Int) := by omega
  have Hz5 := Lib.hid (show w.heap.size < w5.heap.size from lt_of_block (Hu5.out.blk Hb0.out))
  have Hfc := Lib.hid (fun n W (u : Up w5 W) => field_r (.string ⟨m.name.toArray⟩) (.slice fa m.fields.length fc) (.slice ba m.barred.length bc) m.fields n W ⟨_, rfl⟩ ⟨_, _, _, rfl⟩ (Hfs.out.up stable_fld (Hu05.out.trans u)))
  go_upto_region 8 with (fail)
  clear y0
  go_wp2_with fail
  go_loopw [11, 44] (fun h i wr => ∃ (j : Nat), j ≤ L.length ∧ i = .int .i64 j ∧ OwnS DRec w5.heap.size 71 4 (fun q => q < w5.heap.size) wr h (unkF m.fields (L.take j)) ∧ Up w5 wr) (fun _ i _ => L.length - (intOf i).toNat)
  case atStart => exact ⟨0, by omega, rfl, OwnS.nil _ _ _ _ _ _, Up.refl _⟩
  case round =>
    obtain ⟨j, hj, rfl, how, hu⟩ := hrel
    have How := Lib.hid how; have Hu := Lib.hid hu
    obtain ⟨xs0, hxs0⟩ := how.own
    obtain ⟨ha, hc, rfl⟩ := own_val hxs0
    by_cases hlt : j < L.length
    · obtain ⟨rb, ro, a3, c3, rfl, hrb, h64, r0, r1, r2, r3⟩ := rdRec_cell Hrl.out hlt
      have r0 := hu.cell_some r0; have r1 := hu.cell_some r1; have r2 := hu.cell_some r2; have r3 := hu.cell_some r3
      have htk : unkF m.fields (L.take (j + 1)) = if (fldN m.fields L[j].number).isNone = true then unkF m.fields (L.take j) ++ [L[j]] else unkF m.fields (L.take j) := by
        rw [List.take_succ_eq_append_getElem hlt]
        unfold unkF
        rw [List.filter_append, List.filter_cons, List.filter_nil]
        split <;> simp
      have hle : (unkF m.fields (L.take j)).length ≤ 4000 := Nat.le_trans (List.length_filter_le _ _) (by rw [List.length_take]; omega)
      have Htk := Lib.hid htk; have Hrb := Lib.hid hrb; have H64 := Lib.hid h64
      have i0 : (0 : Int) ≤ (j : Int) := by omega
      have i1 : (j : Int) < (L.length : Int) := by omega
      have Hlt := Lib.hid hlt
      obtain ⟨U, hU⟩ : ∃ U, unkF m.fields (L.take j) = U := ⟨_, rfl⟩
      rw [hU] at How hxs0 htk hle ⊢
      rw [hU] at Htk
      have HU := Lib.hid hU
      clear how hu hj hrb h64 htk hU
      generalize hr : L[j] = r at *
      obtain ⟨wq, rfl⟩ : ∃ wq : World, wq = wr := ⟨_, rfl⟩
      go_upto_region 11 with (fail)
      have hbT := blk_new wq (.cells #[.int .i64 r.number, .int .i64 r.how, .int .u64 (r.bits : Int), .slice a3 r.bytes.length c3] 71) (g := wq.heap.size) rfl
      have hux := (Up.refl wq).alloc (.cells #[.int .i64 r.number, .int .i64 r.how, .int .u64 (r.bits : Int), .slice a3 r.bytes.length c3] 71)
      generalize hwx : wq.alloc (.cells #[.int .i64 r.number, .int .i64 r.how, .int .u64 (r.bits : Int), .slice a3 r.bytes.length c3] 71) = wx at *
      obtain ⟨T, hT⟩ : ∃ T, wq.heap.size = T := ⟨_, rfl⟩
      rw [hT] at hbT ⊢
      have Hux := Lib.hid hux; have HbT := Lib.hid hbT
      have f0 : wx.cell? ⟨w.heap.size, 0, none⟩ = some (.slice (some ⟨mb, mo, none⟩) f.msgs.length mc) := cell_of_row wx _ 0 _ _ _ (((Hu5.out.trans Hu.out).trans hux).blk Hb0.out)
      have m0 := ((Hu05.out.trans Hu.out).trans hux).cell_some Hs.out.1
      have m1 := ((Hu05.out.trans Hu.out).trans hux).cell_some Hs.out.2.1
      have m2 := ((Hu05.out.trans Hu.out).trans hux).cell_some Hs.out.2.2
      have t0 : wx.cell? ⟨T, 0, none⟩ = some (.int .i64 r.number) := cell_of_row wx _ 0 _ _ _ hbT
      have dd : wx.drew.cell? ⟨w.heap.size, 0, none⟩ = some (.slice (some ⟨mb, mo, none⟩) f.msgs.length mc) ∧ wx.drew.cell? ⟨mb, mo + mi * 3, none⟩ = some (.string ⟨m.name.toArray⟩) ∧ wx.drew.cell? ⟨mb, mo + mi * 3 + 1, none⟩ = some (.slice fa m.fields.length fc) ∧ wx.drew.cell? ⟨mb, mo + mi * 3 + 2, none⟩ = some (.slice ba m.barred.length bc) ∧ wx.drew.cell? ⟨T, 0, none⟩ = some (.int .i64 r.number) := ⟨f0, m0, m1, m2, t0⟩
      have DD := Lib.hid (fun W (u : Up wx W) => (⟨u.cell_some f0, u.cell_some m0, u.cell_some m1, u.cell_some m2, u.cell_some t0⟩ : W.cell? ⟨w.heap.size, 0, none⟩ = some (.slice (some ⟨mb, mo, none⟩) f.msgs.length mc) ∧ W.cell? ⟨mb, mo + mi * 3, none⟩ = some (.string ⟨m.name.toArray⟩) ∧ W.cell? ⟨mb, mo + mi * 3 + 1, none⟩ = some (.slice fa m.fields.length fc) ∧ W.cell? ⟨mb, mo + mi * 3 + 2, none⟩ = some (.slice ba m.barred.length bc) ∧ W.cell? ⟨T, 0, none⟩ = some (.int .i64 r.number)))
      have Hfc5 := Lib.hid (fun W (u : Up wx W) => Hfc.out r.number W ((Hu.out.trans hux).trans u))
      clear f0 m0 m1 m2 t0 hwx hux hbT r0 r1 r2 r3 hxs0
      go_cut [56] (fun p wc => p = .bool (fldN m.fields r.number).isNone ∧ Up wx wc)
      case first =>
        obtain ⟨hi, hfd⟩ | ⟨jj, hjj, hi, hfd⟩ := idxP_cases (fun z : Fld => z.number == r.number) m.fields
        · have Hfd := Lib.hid (show fldN m.fields r.number = none from hfd)
          have Hi := Lib.hid hi
          clear hi hfd
          go_region_held3 (fun w' => w'.cell? ⟨w.heap.size, 0, none⟩ = some (.slice (some ⟨mb, mo, none⟩) f.msgs.length mc) ∧ w'.cell? ⟨mb, mo + mi * 3, none⟩ = some (.string ⟨m.name.toArray⟩) ∧ w'.cell? ⟨mb, mo + mi * 3 + 1, none⟩ = some (.slice fa m.fields.length fc) ∧ w'.cell? ⟨mb, mo + mi * 3 + 2, none⟩ = some (.slice ba m.barred.length bc) ∧ w'.cell? ⟨T, 0, none⟩ = some (.int .i64 r.number))
            (first | with_reducible exact dd | with_reducible exact DD.out _ hw5)
            (first | (go_at_call 29; refine (Hfc5.out _ (Up.refl wx).drew).mono ?_; rintro e w6 ⟨⟨p, rfl, hp1, hp2⟩, hu6'⟩; obtain rfl := hp1 (by rw [Hi.out]; decide); have hw5 := (Up.refl wx).drew.trans hu6'))
          all_goals
            go_wp2_with fail
            go_meet
            exact ⟨by rw [Hfd.out]; rfl, hw5⟩
        · have Hfd := Lib.hid (show fldN m.fields r.number = some m.fields[jj] from hfd)
          have Hi := Lib.hid hi; have Hjj := Lib.hid hjj
          clear hi hfd
          go_region_held3 (fun w' => w'.cell? ⟨w.heap.size, 0, none⟩ = some (.slice (some ⟨mb, mo, none⟩) f.msgs.length mc) ∧ w'.cell? ⟨mb, mo + mi * 3, none⟩ = some (.string ⟨m.name.toArray⟩) ∧ w'.cell? ⟨mb, mo + mi * 3 + 1, none⟩ = some (.slice fa m.fields.length fc) ∧ w'.cell? ⟨mb, mo + mi * 3 + 2, none⟩ = some (.slice ba m.barred.length bc) ∧ w'.cell? ⟨T, 0, none⟩ = some (.int .i64 r.number))
            (first | with_reducible exact dd | with_reducible exact DD.out _ hw5)
            (first | (go_at_call 29; refine (Hfc5.out _ (Up.refl wx).drew).mono ?_; rintro e w6 ⟨⟨p, rfl, hp1, hp2⟩, hu6'⟩; obtain ⟨xb, xo, xc, _, rfl, _⟩ := hp2 jj Hjj.out Hi.out; have hw5 := (Up.refl wx).drew.trans hu6'))
          all_goals
            go_wp2_with fail
            go_meet
            exact ⟨by rw [Hfd.out]; rfl, hw5⟩
      case rest =>
      obtain ⟨rfl, huc⟩ := hcut
      obtain ⟨wd, rfl⟩ : ∃ y : World, y = wc := ⟨_, rfl⟩
      have Huc := Lib.hid (Hux.out.trans huc)
      have hbT := huc.blk HbT.out
      clear dd DD Hfc5 huc
      cases hnn : (fldN m.fields r.number).isNone with
      | false =>
        rw [hnn, if_neg (by decide)] at Htk
        clear hbT
        go_wp2_with fail
        go_roundw
        case rel =>
          refine ⟨j + 1, by have := Hlt.out; omega, by have := Hlt.out; go_num, ?_, Hu.out.trans Huc.out⟩
          rw [Htk.out]
          exact How.out.up stable_rec Huc.out
        case measure => have := Hlt.out; simp [intOf]; omega
      | true =>
        rw [hnn, if_pos rfl] at Htk
        have HowD := Lib.hid (How.out.up stable_rec Huc.out)
        obtain ⟨xs, hxs⟩ := HowD.out.own
        have Hxs := Lib.hid hxs
        have q0 : wd.cell? ⟨T, 0, none⟩ = some (.int .i64 r.number) := cell_of_row wd _ 0 _ _ _ hbT
        have q1 : wd.cell? ⟨T, 1, none⟩ = some (.int .i64 r.how) := cell_of_row wd _ 1 _ _ _ hbT
        have q2 : wd.cell? ⟨T, 2, none⟩ = some (.int .u64 (r.bits : Int)) := cell_of_row wd _ 2 _ _ _ hbT
        have q3 : wd.cell? ⟨T, 3, none⟩ = some (.slice a3 r.bytes.length c3) := cell_of_row wd _ 3 _ _ _ hbT
        have hwz : w5.heap.size ≤ wd.heap.size := (Hu.out.trans Huc.out).size
        clear hxs hbT
        go_wp2_with (first
          | (at_builtin; go_must (refine wpList_app1 eRec' _ (by rfl) _ _ (by rfl) w5.heap.size _ _ _ (by rfl) Hxs.out _ (by rfl) (by first | rfl | simp) (by rfl) (oc (by rfl)) (by omega) (by unfold maxLen; omega) (by first | omega | (simp; omega)) ?_; intro v9 w9 how9 hev9; have How9 := Lib.hid how9; have Hev9 := Lib.hid hev9; clear how9 hev9)))
        go_roundw
        case rel =>
          refine ⟨j + 1, by have := Hlt.out; omega, by have := Hlt.out; go_num, ?_, Up.evo (Hu.out.trans Huc.out) Hev9.out (fun q e => (HowD.out.lo q e).1)⟩
          rw [Htk.out]
          refine OwnS.snoc stable_rec HowD.out Hxs.out How9.out Hev9.out (by rfl) ⟨_, rfl, Hrb.out.keep stable_u8 (fun q _ hq => ⟨(Hu.out.trans Huc.out).block q hq, hq, fun e => by have := (HowD.out.lo q e).1; omega⟩), H64.out⟩
        case measure => have := Hlt.out; simp [intOf]; omega
    · have hj' : j = L.length := by omega
      have huV : unkF m.fields (L.take j) = RB.unknown := by rw [hj', List.take_length, Hun.out]
      rw [huV] at how hxs0 ⊢
      obtain ⟨a1', n1', a2', n2', e1', e2', hdv, hdu, hdz⟩ := bod_cells Hd5.out
      simp only [Value.slice.injEq] at e1' e2'
      obtain ⟨rfl, rfl, rfl⟩ := e1'
      obtain ⟨rfl, rfl, rfl⟩ := e2'
      have hwant := how.rd (S' := All) stable_rec (fun _ _ => trivial) (fun _ _ => trivial)
      have hx1 := cell_of_row wr _ 1 _ _ _ (hu.blk HbX5.out)
      obtain ⟨PB, hPB⟩ : ∃ PB, (bytesP RB.unknown).1 = PB := ⟨_, rfl⟩
      obtain ⟨pe1, hpe1⟩ : ∃ pe1, (bytesP RB.unknown).2.1 = pe1 := ⟨_, rfl⟩
      obtain ⟨pe2, hpe2⟩ : ∃ pe2, (bytesP RB.unknown).2.2 = pe2 := ⟨_, rfl⟩
      have hb14 := bytes_any (.slice ha RB.unknown.length hc) RB.unknown wr hwant
      have Hb15 := Lib.hid (fun W (u : Up w5 W) => by
        have h := bytes_any (.slice s2 RB.unknown.length d2) RB.unknown W ((rec_of_z hdu).up stable_rec u)
        rw [hPB, hpe1, hpe2] at h
        exact h)
      rw [hPB, hpe1, hpe2] at hb14
      have Hb14 := Lib.hid hb14; have HPB := Lib.hid hPB; have Hu := Lib.hid hu; have HbXr := Lib.hid (hu.blk HbX5.out)
      have Hbod := Lib.hid (fun W (u : Up w5 W) => stable_bod 13 _ _ All _ _ _ (Keep.upS u) Hd5.out)
      clear hb14 hdv hdu hdz hwant hx1 how hxs0 hj' huV hj How hu hPB hpe1 hpe2
      go_upto_region 15 with (go_at_call 32; go_must (refine Hb14.out.mono ?_; rintro e w6 ⟨v6, rfl, how6, hu6⟩; obtain ⟨a6, c6, rfl⟩ := own_val how6))
      have hr6 : RdB All w6 (.slice a6 PB.length c6) PB := rdB_of_owns how6 (fun _ _ => trivial)
      have hu7 := hu6.alloc (.cells #[.int .i64 pe1, .int .i64 (pe2 : Int)] 67)
      have hr7 := hr6.up stable_u8 ((Up.refl w6).alloc (.cells #[.int .i64 pe1, .int .i64 (pe2 : Int)] 67))
      generalize w6.alloc (.cells #[.int .i64 pe1, .int .i64 (pe2 : Int)] 67) = w7 at *
      have Hr7 := Lib.hid hr7; have Hu7 := Lib.hid (Hu.out.trans hu7)
      have x1 : w7.cell? ⟨X, 1, none⟩ = some (.slice s2 RB.unknown.length d2) := cell_of_row w7 _ 1 _ _ _ (hu7.blk HbXr.out)
      clear hr6 hr7 hu6 hu7 how6 Hb14
      go_upto_region 16 with (go_at_call 32; go_must (refine (Hb15.out _ Hu7.out).mono ?_; rintro e w8 ⟨v8, rfl, how8, hu8⟩; obtain ⟨a8, c8, rfl⟩ := own_val how8))
      have hr8 : RdB All w8 (.slice a8 PB.length c8) PB := rdB_of_owns how8 (fun _ _ => trivial)
      have hu9 := hu8.alloc (.cells #[.int .i64 pe1, .int .i64 (pe2 : Int)] 67)
      have hr9 := hr8.up stable_u8 ((Up.refl w8).alloc (.cells #[.int .i64 pe1, .int .i64 (pe2 : Int)] 67))
      generalize w8.alloc (.cells #[.int .i64 pe1, .int .i64 (pe2 : Int)] 67) = w9 at *
      have Hr9 := Lib.hid (Hr7.out.up stable_u8 hu9); have Hu9 := Lib.hid (Hu7.out.trans hu9)
      have hc1 := run_conv (P := Tryz.prog) (w := w9) Hr9.out 32 5 9 Tryz.underlying32 Tryz.underlying5 Tryz.underlying9
      have hc2 := run_conv (P := Tryz.prog) (w := w9) hr9 32 5 9 Tryz.underlying32 Tryz.underlying5 Tryz.underlying9
      have x0 : w9.cell? ⟨X, 0, none⟩ = some (.slice s1 RB.values.length d1) := cell_of_row w9 _ 0 _ _ _ (Hu9.out.blk HbX5.out)
      have x1 : w9.cell? ⟨X, 1, none⟩ = some (.slice s2 RB.unknown.length d2) := cell_of_row w9 _ 1 _ _ _ (Hu9.out.blk HbX5.out)
      have f0 : w9.cell? ⟨w.heap.size, 0, none⟩ = some (.slice (some ⟨mb, mo, none⟩) f.msgs.length mc) := cell_of_row w9 _ 0 _ _ _ ((Hu5.out.trans Hu9.out).blk Hb0.out)
      have f1 : w9.cell? ⟨w.heap.size, 1, none⟩ = some (.slice ea f.enums.length ec) := cell_of_row w9 _ 1 _ _ _ ((Hu5.out.trans Hu9.out).blk Hb0.out)
      clear hr8 hr9 hu8 hu9 how8 Hb15
      have h64 := b64_of 13 Hd5.out 12
      have hrt := Hrt.out
      have hraw := raw_small hrt.1 h64 hrt.2
      have Hby := Lib.hid (fun W (u : Up w9 W) => bytes_c 13 (.agg #[.slice (some ⟨mb, mo, none⟩) f.msgs.length mc, .slice ea f.enums.length ec]) (.slice s1 RB.values.length d1) (.slice s2 RB.unknown.length d2) f (mi : Int) RB W (Hf.out.up ((Hu05.out.trans Hu9.out).trans u)) (Hbod.out _ (Hu9.out.trans u)) (HT.out.up ((Hu05.out.trans Hu9.out).trans u)) (fun _ => by omega))
      have hbt := bytes_tail (f := f) (msg := (mi : Int)) hrt.1
      rw [HPB.out] at hbt
      obtain ⟨CB, hCB⟩ : ∃ CB, bytesC f (mi : Int) RB = CB := ⟨_, rfl⟩
      rw [hCB] at hbt Hby
      obtain ⟨CB, ce⟩ := CB
      simp only at hbt
      have Hbt := Lib.hid hbt
      clear h64 hrt hraw hbt hCB
      go_upto_region 19 with (go_at_call 13; go_must (refine (Hby.out _ (Up.refl w9)).mono ?_; rintro e w10 ⟨v10, rfl, how10, hu10⟩; obtain ⟨a10, c10, rfl⟩ := own_val how10))
      have hr10 : RdB All w10 (.slice a10 CB.length c10) CB := rdB_of_owns how10 (fun _ _ => trivial)
      have Hr10 := Lib.hid hr10
      have Hu10 := Lib.hid (Hu05.out.trans (Hu9.out.trans hu10))
      have hpb : RdB All w10 (.slice a6 PB.length c6) PB := Hr9.out.up stable_u8 hu10
      have Hpb := Lib.hid hpb
      clear hr10 how10 hu10 hpb x0 x1 f0 f1 hc1 hc2
      by_cases hce : ce = 0
      · subst hce
        obtain ⟨hb1, P, hb2⟩ := Hbt.out rfl
        rw [← hb1] at hb2
        have hcl : CB.length = P.length + PB.length := by rw [hb2, List.length_append]
        have i1 : (PB.length : Int) ≤ (CB.length : Int) := by omega
        have i2 : (CB.length : Int) - (PB.length : Int) = (P.length : Int) := by omega
        have i3 : (0 : Int) ≤ (P.length : Int) := by omega
        have i4 : (P.length : Int) ≤ (CB.length : Int) := by omega
        have i5 : CB.length - P.length = PB.length := by omega
        have i6 : P.length ≤ CB.length := by omega
        have i7 : CB.length ≤ 9223372036854775807 := by
          obtain ⟨xa, xc, hx, h1, h2⟩ := Hr10.out.val
          omega
        have hdr : CB.drop P.length = PB := by rw [hb2, List.drop_left]
        have hcv : (convert 32 9 (.slice a6 PB.length c6)).run Tryz.prog w10.drew = .ok (.string ⟨PB.toArray⟩) w10.drew := run_conv (P := Tryz.prog) (w := w10.drew) (S := All) (Hpb.out.up stable_u8 (Up.refl w10).drew) 32 5 9 Tryz.underlying32 Tryz.underlying5 Tryz.underlying9
        have hsl : RdB All w10.drew (.slice (if c10 = P.length then a10 else Option.map (fun x => x.add P.length) a10) PB.length (c10 - P.length)) PB := by
          have h := RdB.drop (Hr10.out.up stable_u8 (Up.refl w10).drew) P.length i6 (ao' := if c10 = P.length then a10 else Option.map (fun x => x.add P.length) a10) (fun h => by rw [if_neg h]) (n' := PB.length) (cap' := c10 - P.length) (by omega) (by omega)
          rw [hdr] at h
          exact h
        have hcv2 := run_conv (P := Tryz.prog) (w := w10.drew) (S := All) hsl 32 5 9 Tryz.underlying32 Tryz.underlying5 Tryz.underlying9
        clear hb1 hb2 hcl hdr hsl Hbt
        refine wp_region_held_drew (S := (fun w' => (convert 32 9 (.slice a6 PB.length c6)).run Tryz.prog w' = .ok (.string ⟨PB.toArray⟩) w' ∧ (convert 32 9 (.slice (if c10 = P.length then a10 else Option.map (fun x => x.add P.length) a10) PB.length (c10 - P.length))).run Tryz.prog w' = .ok (.string ⟨PB.toArray⟩) w')) (by kernel_rfl) ⟨hcv, hcv2⟩ (fun hHeld => ?_)
        refine wpAnyH_take (i := 0) (v := ?_) (by simp only [List.getElem?_toArray, List.getElem?_cons_zero] <;> rfl) (by kernel_rfl) (by kernel_rfl) (by kernel_rfl) (fun _ _ _ h => by exact h) (Or.inl ⟨by rfl, ?_⟩) (by assumption) ?_
        rotate_left
        · (intro w hSw; (try dsimp only at hSw); go_simp)
          try with_reducible rfl
        rotate_left
        try simp only [Act.put, List.setIfInBounds_toArray, List.set_cons_zero, List.set_cons_succ]
        refine wpAnyH_take (i := 1) (v := ?_) (by simp only [List.getElem?_toArray, List.getElem?_cons_succ, List.getElem?_cons_zero] <;> rfl) (by kernel_rfl) (by kernel_rfl) (by kernel_rfl) (fun _ _ _ h => by exact h) (Or.inl ⟨by rfl, ?_⟩) (by assumption) ?_
        rotate_left
        · (intro w hSw; (try dsimp only at hSw); go_simp)
          try with_reducible rfl
        rotate_left
        try simp only [Act.put, List.setIfInBounds_toArray, List.set_cons_zero, List.set_cons_succ]
        refine wpAnyH_take (i := 2) (v := ?_) (by simp only [List.getElem?_toArray, List.getElem?_cons_succ, List.getElem?_cons_zero] <;> rfl) (by kernel_rfl) (by kernel_rfl) (by kernel_rfl) (fun _ _ _ h => by exact h) (Or.inl ⟨by rfl, ?_⟩) (by assumption) ?_
        rotate_left
        · (intro w hSw; (try dsimp only at hSw); go_simp)
          try with_reducible rfl
        rotate_left
        try simp only [Act.put, List.setIfInBounds_toArray, List.set_cons_zero, List.set_cons_succ]
        refine wpAnyH_take (i := 3) (v := ?_) (by simp only [List.getElem?_toArray, List.getElem?_cons_succ, List.getElem?_cons_zero] <;> rfl) (by kernel_rfl) (by kernel_rfl) (by kernel_rfl) (fun _ _ _ h => by exact h) (Or.inl ⟨by rfl, ?_⟩) (by assumption) ?_
        rotate_left
        · (intro w hSw; (try dsimp only at hSw); go_simp)
          try with_reducible rfl
        rotate_left
        try simp only [Act.put, List.setIfInBounds_toArray, List.set_cons_zero, List.set_cons_succ]
        refine wpAnyH_take (i := 4) (v := ?_) (by simp only [List.getElem?_toArray, List.getElem?_cons_succ, List.getElem?_cons_zero] <;> rfl) (by kernel_rfl) (by kernel_rfl) (by kernel_rfl) (fun _ _ _ h => by exact h) (Or.inl ⟨by rfl, ?_⟩) (by assumption) ?_
        rotate_left
        · (intro w hSw; (try dsimp only at hSw); go_simp)
          try with_reducible rfl
        rotate_left
        try simp only [Act.put, List.setIfInBounds_toArray, List.set_cons_zero, List.set_cons_succ]
        refine wpAnyH_take (i := 5) (v := ?_) (by simp only [List.getElem?_toArray, List.getElem?_cons_succ, List.getElem?_cons_zero] <;> rfl) (by kernel_rfl) (by kernel_rfl) (by kernel_rfl) (fun _ _ _ h => by exact h) (Or.inl ⟨by rfl, ?_⟩) (by assumption) ?_
        rotate_left
        · (intro w hSw; (try dsimp only at hSw); go_simp)
          try with_reducible rfl
        rotate_left
        try simp only [Act.put, List.setIfInBounds_toArray, List.set_cons_zero, List.set_cons_succ]
        refine wpAnyH_take (i := 6) (v := ?_) (by simp only [List.getElem?_toArray, List.getElem?_cons_succ, List.getElem?_cons_zero] <;> rfl) (by kernel_rfl) (by kernel_rfl) (by kernel_rfl) (fun _ _ _ h => by exact h) (Or.inl ⟨by rfl, ?_⟩) (by assumption) ?_
        rotate_left
        · (intro w hSw; (try dsimp only at hSw); go_simp)
          try with_reducible rfl
        rotate_left
        try simp only [Act.put, List.setIfInBounds_toArray, List.set_cons_zero, List.set_cons_succ]
        refine wpAnyH_take (i := 7) (v := .bool true) (by simp only [List.getElem?_toArray, List.getElem?_cons_succ, List.getElem?_cons_zero] <;> rfl) (by kernel_rfl) (by kernel_rfl) (by kernel_rfl) (fun _ _ _ h => by exact h) (Or.inl ⟨by rfl, ?_⟩) (by assumption) ?_
        · (intro w hSw; (try dsimp only at hSw); go_simp)
          all_goals first | omega | (simp; omega) | rfl
        try simp only [Act.put, List.setIfInBounds_toArray, List.set_cons_zero, List.set_cons_succ]
        refine wpAnyH_take (i := 8) (v := ?_) (by simp only [List.getElem?_toArray, List.getElem?_cons_succ, List.getElem?_cons_zero] <;> rfl) (by kernel_rfl) (by kernel_rfl) (by kernel_rfl) (fun _ _ _ h => by exact h) (Or.inl ⟨by rfl, ?_⟩) (by assumption) ?_
        rotate_left
        · (intro w hSw; (try dsimp only at hSw); go_simp)
          try with_reducible rfl
        rotate_left
        try simp only [Act.put, List.setIfInBounds_toArray, List.set_cons_zero, List.set_cons_succ]
        refine wpAnyH_take (i := 9) (v := ?_) (by simp only [List.getElem?_toArray, List.getElem?_cons_succ, List.getElem?_cons_zero] <;> rfl) (by kernel_rfl) (by kernel_rfl) (by kernel_rfl) (fun _ _ _ h => by exact h) (Or.inl ⟨by rfl, ?_⟩) (by assumption) ?_
        rotate_left
        · (intro w hSw; (try dsimp only at hSw); go_simp)
          try with_reducible rfl
        rotate_left
        try simp only [Act.put, List.setIfInBounds_toArray, List.set_cons_zero, List.set_cons_succ]
        refine wpAnyH_take (i := 10) (v := ?_) (by simp only [List.getElem?_toArray, List.getElem?_cons_succ, List.getElem?_cons_zero] <;> rfl) (by kernel_rfl) (by kernel_rfl) (by kernel_rfl) (fun _ _ _ h => by exact h) (Or.inl ⟨by rfl, ?_⟩) (by assumption) ?_
        rotate_left
        · (intro w hSw; (try dsimp only at hSw); go_simp)
          try with_reducible rfl
        rotate_left
        try simp only [Act.put, List.setIfInBounds_toArray, List.set_cons_zero, List.set_cons_succ]
        refine wpAnyH_take (i := 11) (v := ?_) (by simp only [List.getElem?_toArray, List.getElem?_cons_succ, List.getElem?_cons_zero] <;> rfl) (by kernel_rfl) (by kernel_rfl) (by kernel_rfl) (fun _ _ _ h => by exact h) (Or.inl ⟨by rfl, ?_⟩) (by assumption) ?_
        rotate_left
        · (intro w hSw; (try dsimp only at hSw); go_simp)
          try with_reducible rfl
        rotate_left
        try simp only [Act.put, List.setIfInBounds_toArray, List.set_cons_zero, List.set_cons_succ]
        refine wpAnyH_take (i := 12) (v := ?_) (by simp only [List.getElem?_toArray, List.getElem?_cons_succ, List.getElem?_cons_zero] <;> rfl) (by kernel_rfl) (by kernel_rfl) (by kernel_rfl) (fun _ _ _ h => by exact h) (Or.inl ⟨by rfl, ?_⟩) (by assumption) ?_
        rotate_left
        · (intro w hSw; (try dsimp only at hSw); go_simp)
          try with_reducible rfl
        rotate_left
        try simp only [Act.put, List.setIfInBounds_toArray, List.set_cons_zero, List.set_cons_succ]
        refine wpAnyH_take (i := 13) (v := ?_) (by simp only [List.getElem?_toArray, List.getElem?_cons_succ, List.getElem?_cons_zero] <;> rfl) (by kernel_rfl) (by kernel_rfl) (by kernel_rfl) (fun _ _ _ h => by exact h) (Or.inl ⟨by rfl, ?_⟩) (by assumption) ?_
        rotate_left
        · (intro w hSw; (try dsimp only at hSw); go_simp)
          try with_reducible rfl
        rotate_left
        try simp only [Act.put, List.setIfInBounds_toArray, List.set_cons_zero, List.set_cons_succ]
        refine wpAnyH_take (i := 14) (v := .int .i64 (P.length : Int)) (by simp only [List.getElem?_toArray, List.getElem?_cons_succ, List.getElem?_cons_zero] <;> rfl) (by kernel_rfl) (by kernel_rfl) (by kernel_rfl) (fun _ _ _ h => by exact h) (Or.inl ⟨by rfl, ?_⟩) (by assumption) ?_
        · (intro w hSw; (try dsimp only at hSw); go_simp)
          all_goals first | rfl | go_num | omega | (rw [IntKind.wrap_i64]; omega)
        try simp only [Act.put, List.setIfInBounds_toArray, List.set_cons_zero, List.set_cons_succ]
        refine wpAnyH_take (i := 15) (v := (.slice (if c10 = P.length then a10 else Option.map (fun x => x.add P.length) a10) PB.length (c10 - P.length))) (by simp only [List.getElem?_toArray, List.getElem?_cons_succ, List.getElem?_cons_zero] <;> rfl) (by kernel_rfl) (by kernel_rfl) (by kernel_rfl) (fun _ _ _ h => by exact h) (Or.inl ⟨by rfl, ?_⟩) (by assumption) ?_
        · (intro w hSw; (try dsimp only at hSw); go_simp)
          all_goals rfl
        try simp only [Act.put, List.setIfInBounds_toArray, List.set_cons_zero, List.set_cons_succ]
        refine wpAnyH_take (i := 16) (v := ?_) (by simp only [List.getElem?_toArray, List.getElem?_cons_succ, List.getElem?_cons_zero] <;> rfl) (by kernel_rfl) (by kernel_rfl) (by kernel_rfl) (fun _ _ _ h => by exact h) (Or.inl ⟨by rfl, ?_⟩) (by assumption) ?_
        rotate_left
        · (intro w hSw; (try dsimp only at hSw); go_simp)
          try with_reducible rfl
        rotate_left
        try simp only [Act.put, List.setIfInBounds_toArray, List.set_cons_zero, List.set_cons_succ]
        refine wpAnyH_take (i := 17) (v := ?_) (by simp only [List.getElem?_toArray, List.getElem?_cons_succ, List.getElem?_cons_zero] <;> rfl) (by kernel_rfl) (by kernel_rfl) (by kernel_rfl) (fun _ _ _ h => by exact h) (Or.inl ⟨by rfl, ?_⟩) (by assumption) ?_
        rotate_left
        · (intro w hSw; (try dsimp only at hSw); go_simp)
          try with_reducible rfl
        rotate_left
        try simp only [Act.put, List.setIfInBounds_toArray, List.set_cons_zero, List.set_cons_succ]
        refine wpAnyH_take (i := 18) (v := ?_) (by simp only [List.getElem?_toArray, List.getElem?_cons_succ, List.getElem?_cons_zero] <;> rfl) (by kernel_rfl) (by kernel_rfl) (by kernel_rfl) (fun _ _ _ h => by exact h) (Or.inl ⟨by rfl, ?_⟩) (by assumption) ?_
        rotate_left
        · (intro w hSw; (try dsimp only at hSw); go_simp)
          try with_reducible rfl
        rotate_left
        try simp only [Act.put, List.setIfInBounds_toArray, List.set_cons_zero, List.set_cons_succ]
        refine wpAnyH_take (i := 19) (v := .bool true) (by simp only [List.getElem?_toArray, List.getElem?_cons_succ, List.getElem?_cons_zero] <;> rfl) (by kernel_rfl) (by kernel_rfl) (by kernel_rfl) (fun _ _ _ h => by exact h) (Or.inl ⟨by rfl, ?_⟩) (by assumption) ?_
        · (intro w hSw; (try dsimp only at hSw); go_simp)
          all_goals rfl
        try simp only [Act.put, List.setIfInBounds_toArray, List.set_cons_zero, List.set_cons_succ]
        refine wpAnyH_take (i := 20) (v := ?_) (by simp only [List.getElem?_toArray, List.getElem?_cons_succ, List.getElem?_cons_zero] <;> rfl) (by kernel_rfl) (by kernel_rfl) (by kernel_rfl) (fun _ _ _ h => by exact h) (Or.inl ⟨by rfl, ?_⟩) (by assumption) ?_
        rotate_left
        · (intro w hSw; (try dsimp only at hSw); go_simp)
          try with_reducible rfl
        rotate_left
        try simp only [Act.put, List.setIfInBounds_toArray, List.set_cons_zero, List.set_cons_succ]
        refine wpAnyH_take (i := 21) (v := ?_) (by simp only [List.getElem?_toArray, List.getElem?_cons_succ, List.getElem?_cons_zero] <;> rfl) (by kernel_rfl) (by kernel_rfl) (by kernel_rfl) (fun _ _ _ h => by exact h) (Or.inl ⟨by rfl, ?_⟩) (by assumption) ?_
        rotate_left
        · (intro w hSw; (try dsimp only at hSw); go_simp)
          try with_reducible rfl
        rotate_left
        try simp only [Act.put, List.setIfInBounds_toArray, List.set_cons_zero, List.set_cons_succ]
        refine wpAnyH_take (i := 22) (v := ?_) (by simp only [List.getElem?_toArray, List.getElem?_cons_succ, List.getElem?_cons_zero] <;> rfl) (by kernel_rfl) (by kernel_rfl) (by kernel_rfl) (fun _ _ _ h => by exact h) (Or.inl ⟨by rfl, ?_⟩) (by assumption) ?_
        rotate_left
        · (intro w hSw; (try dsimp only at hSw); go_simp)
          try with_reducible rfl
        rotate_left
        try simp only [Act.put, List.setIfInBounds_toArray, List.set_cons_zero, List.set_cons_succ]
        refine wpAnyH_done (by kernel_rfl) ?_ _
        go_wp2_with fail
        all_goals
          go_ret
          exact ⟨rfl, Hu10.out.drew⟩
      · have hne : (ce != 0) = true := by rw [bne_iff_ne]; exact hce
        clear hce
        refine wp_region_held_drew (S := (fun _ => True)) (by kernel_rfl) trivial (fun hHeld => ?_)
        refine wpAnyH_take (i := 0) (v := ?_) (by simp only [List.getElem?_toArray, List.getElem?_cons_zero] <;> rfl) (by kernel_rfl) (by kernel_rfl) (by kernel_rfl) (fun _ _ _ h => by exact h) (Or.inl ⟨by rfl, ?_⟩) (by assumption) ?_
        rotate_left
        · (intro w hSw; (try dsimp only at hSw); go_simp)
          try with_reducible rfl
        rotate_left
        try simp only [Act.put, List.setIfInBounds_toArray, List.set_cons_zero, List.set_cons_succ]
        refine wpAnyH_take (i := 1) (v := ?_) (by simp only [List.getElem?_toArray, List.getElem?_cons_succ, List.getElem?_cons_zero] <;> rfl) (by kernel_rfl) (by kernel_rfl) (by kernel_rfl) (fun _ _ _ h => by exact h) (Or.inl ⟨by rfl, ?_⟩) (by assumption) ?_
        rotate_left
        · (intro w hSw; (try dsimp only at hSw); go_simp)
          try with_reducible rfl
        rotate_left
        try simp only [Act.put, List.setIfInBounds_toArray, List.set_cons_zero, List.set_cons_succ]
        refine wpAnyH_take (i := 2) (v := ?_) (by simp only [List.getElem?_toArray, List.getElem?_cons_succ, List.getElem?_cons_zero] <;> rfl) (by kernel_rfl) (by kernel_rfl) (by kernel_rfl) (fun _ _ _ h => by exact h) (Or.inl ⟨by rfl, ?_⟩) (by assumption) ?_
        rotate_left
        · (intro w hSw; (try dsimp only at hSw); go_simp)
          try with_reducible rfl
        rotate_left
        try simp only [Act.put, List.setIfInBounds_toArray, List.set_cons_zero, List.set_cons_succ]
        refine wpAnyH_take (i := 3) (v := undef) (by simp only [List.getElem?_toArray, List.getElem?_cons_succ, List.getElem?_cons_zero] <;> rfl) (by kernel_rfl) (by kernel_rfl) (by kernel_rfl) (fun _ _ _ h => by exact h) (Or.inr ⟨by rfl, rfl⟩) (by assumption) ?_
        try simp only [Act.put, List.setIfInBounds_toArray, List.set_cons_zero, List.set_cons_succ]
        refine wpAnyH_take (i := 4) (v := undef) (by simp only [List.getElem?_toArray, List.getElem?_cons_succ, List.getElem?_cons_zero] <;> rfl) (by kernel_rfl) (by kernel_rfl) (by kernel_rfl) (fun _ _ _ h => by exact h) (Or.inr ⟨by rfl, rfl⟩) (by assumption) ?_
        try simp only [Act.put, List.setIfInBounds_toArray, List.set_cons_zero, List.set_cons_succ]
        refine wpAnyH_take (i := 5) (v := undef) (by simp only [List.getElem?_toArray, List.getElem?_cons_succ, List.getElem?_cons_zero] <;> rfl) (by kernel_rfl) (by kernel_rfl) (by kernel_rfl) (fun _ _ _ h => by exact h) (Or.inr ⟨by rfl, rfl⟩) (by assumption) ?_
        try simp only [Act.put, List.setIfInBounds_toArray, List.set_cons_zero, List.set_cons_succ]
        refine wpAnyH_take (i := 6) (v := undef) (by simp only [List.getElem?_toArray, List.getElem?_cons_succ, List.getElem?_cons_zero] <;> rfl) (by kernel_rfl) (by kernel_rfl) (by kernel_rfl) (fun _ _ _ h => by exact h) (Or.inr ⟨by rfl, rfl⟩) (by assumption) ?_
        try simp only [Act.put, List.setIfInBounds_toArray, List.set_cons_zero, List.set_cons_succ]
        refine wpAnyH_take (i := 7) (v := undef) (by simp only [List.getElem?_toArray, List.getElem?_cons_succ, List.getElem?_cons_zero] <;> rfl) (by kernel_rfl) (by kernel_rfl) (by kernel_rfl) (fun _ _ _ h => by exact h) (Or.inr ⟨by rfl, rfl⟩) (by assumption) ?_
        try simp only [Act.put, List.setIfInBounds_toArray, List.set_cons_zero, List.set_cons_succ]
        refine wpAnyH_take (i := 8) (v := undef) (by simp only [List.getElem?_toArray, List.getElem?_cons_succ, List.getElem?_cons_zero] <;> rfl) (by kernel_rfl) (by kernel_rfl) (by kernel_rfl) (fun _ _ _ h => by exact h) (Or.inr ⟨by rfl, rfl⟩) (by assumption) ?_
        try simp only [Act.put, List.setIfInBounds_toArray, List.set_cons_zero, List.set_cons_succ]
        refine wpAnyH_take (i := 9) (v := undef) (by simp only [List.getElem?_toArray, List.getElem?_cons_succ, List.getElem?_cons_zero] <;> rfl) (by kernel_rfl) (by kernel_rfl) (by kernel_rfl) (fun _ _ _ h => by exact h) (Or.inr ⟨by rfl, rfl⟩) (by assumption) ?_
        try simp only [Act.put, List.setIfInBounds_toArray, List.set_cons_zero, List.set_cons_succ]
        refine wpAnyH_take (i := 10) (v := undef) (by simp only [List.getElem?_toArray, List.getElem?_cons_succ, List.getElem?_cons_zero] <;> rfl) (by kernel_rfl) (by kernel_rfl) (by kernel_rfl) (fun _ _ _ h => by exact h) (Or.inr ⟨by rfl, rfl⟩) (by assumption) ?_
        try simp only [Act.put, List.setIfInBounds_toArray, List.set_cons_zero, List.set_cons_succ]
        refine wpAnyH_take (i := 11) (v := undef) (by simp only [List.getElem?_toArray, List.getElem?_cons_succ, List.getElem?_cons_zero] <;> rfl) (by kernel_rfl) (by kernel_rfl) (by kernel_rfl) (fun _ _ _ h => by exact h) (Or.inr ⟨by rfl, rfl⟩) (by assumption) ?_
        try simp only [Act.put, List.setIfInBounds_toArray, List.set_cons_zero, List.set_cons_succ]
        refine wpAnyH_take (i := 12) (v := undef) (by simp only [List.getElem?_toArray, List.getElem?_cons_succ, List.getElem?_cons_zero] <;> rfl) (by kernel_rfl) (by kernel_rfl) (by kernel_rfl) (fun _ _ _ h => by exact h) (Or.inr ⟨by rfl, rfl⟩) (by assumption) ?_
        try simp only [Act.put, List.setIfInBounds_toArray, List.set_cons_zero, List.set_cons_succ]
        refine wpAnyH_take (i := 13) (v := undef) (by simp only [List.getElem?_toArray, List.getElem?_cons_succ, List.getElem?_cons_zero] <;> rfl) (by kernel_rfl) (by kernel_rfl) (by kernel_rfl) (fun _ _ _ h => by exact h) (Or.inr ⟨by rfl, rfl⟩) (by assumption) ?_
        try simp only [Act.put, List.setIfInBounds_toArray, List.set_cons_zero, List.set_cons_succ]
        refine wpAnyH_take (i := 14) (v := undef) (by simp only [List.getElem?_toArray, List.getElem?_cons_succ, List.getElem?_cons_zero] <;> rfl) (by kernel_rfl) (by kernel_rfl) (by kernel_rfl) (fun _ _ _ h => by exact h) (Or.inr ⟨by rfl, rfl⟩) (by assumption) ?_
        try simp only [Act.put, List.setIfInBounds_toArray, List.set_cons_zero, List.set_cons_succ]
        refine wpAnyH_take (i := 15) (v := undef) (by simp only [List.getElem?_toArray, List.getElem?_cons_succ, List.getElem?_cons_zero] <;> rfl) (by kernel_rfl) (by kernel_rfl) (by kernel_rfl) (fun _ _ _ h => by exact h) (Or.inr ⟨by rfl, rfl⟩) (by assumption) ?_
        try simp only [Act.put, List.setIfInBounds_toArray, List.set_cons_zero, List.set_cons_succ]
        refine wpAnyH_take (i := 16) (v := undef) (by simp only [List.getElem?_toArray, List.getElem?_cons_succ, List.getElem?_cons_zero] <;> rfl) (by kernel_rfl) (by kernel_rfl) (by kernel_rfl) (fun _ _ _ h => by exact h) (Or.inr ⟨by rfl, rfl⟩) (by assumption) ?_
        try simp only [Act.put, List.setIfInBounds_toArray, List.set_cons_zero, List.set_cons_succ]
        refine wpAnyH_take (i := 17) (v := undef) (by simp only [List.getElem?_toArray, List.getElem?_cons_succ, List.getElem?_cons_zero] <;> rfl) (by kernel_rfl) (by kernel_rfl) (by kernel_rfl) (fun _ _ _ h => by exact h) (Or.inr ⟨by rfl, rfl⟩) (by assumption) ?_
        try simp only [Act.put, List.setIfInBounds_toArray, List.set_cons_zero, List.set_cons_succ]
        refine wpAnyH_take (i := 18) (v := undef) (by simp only [List.getElem?_toArray, List.getElem?_cons_succ, List.getElem?_cons_zero] <;> rfl) (by kernel_rfl) (by kernel_rfl) (by kernel_rfl) (fun _ _ _ h => by exact h) (Or.inr ⟨by rfl, rfl⟩) (by assumption) ?_
        try simp only [Act.put, List.setIfInBounds_toArray, List.set_cons_zero, List.set_cons_succ]
        refine wpAnyH_take (i := 19) (v := undef) (by simp only [List.getElem?_toArray, List.getElem?_cons_succ, List.getElem?_cons_zero] <;> rfl) (by kernel_rfl) (by kernel_rfl) (by kernel_rfl) (fun _ _ _ h => by exact h) (Or.inr ⟨by rfl, rfl⟩) (by assumption) ?_
        try simp only [Act.put, List.setIfInBounds_toArray, List.set_cons_zero, List.set_cons_succ]
        refine wpAnyH_take (i := 20) (v := undef) (by simp only [List.getElem?_toArray, List.getElem?_cons_succ, List.getElem?_cons_zero] <;> rfl) (by kernel_rfl) (by kernel_rfl) (by kernel_rfl) (fun _ _ _ h => by exact h) (Or.inr ⟨by rfl, rfl⟩) (by assumption) ?_
        try simp only [Act.put, List.setIfInBounds_toArray, List.set_cons_zero, List.set_cons_succ]
        refine wpAnyH_take (i := 21) (v := ?_) (by simp only [List.getElem?_toArray, List.getElem?_cons_succ, List.getElem?_cons_zero] <;> rfl) (by kernel_rfl) (by kernel_rfl) (by kernel_rfl) (fun _ _ _ h => by exact h) (Or.inl ⟨by rfl, ?_⟩) (by assumption) ?_
        rotate_left
        · (intro w hSw; (try dsimp only at hSw); go_simp)
          try with_reducible rfl
        rotate_left
        try simp only [Act.put, List.setIfInBounds_toArray, List.set_cons_zero, List.set_cons_succ]
        refine wpAnyH_take (i := 22) (v := ?_) (by simp only [List.getElem?_toArray, List.getElem?_cons_succ, List.getElem?_cons_zero] <;> rfl) (by kernel_rfl) (by kernel_rfl) (by kernel_rfl) (fun _ _ _ h => by exact h) (Or.inl ⟨by rfl, ?_⟩) (by assumption) ?_
        rotate_left
        · (intro w hSw; (try dsimp only at hSw); go_simp)
          try with_reducible rfl
        rotate_left
        try simp only [Act.put, List.setIfInBounds_toArray, List.set_cons_zero, List.set_cons_succ]
        refine wpAnyH_done (by kernel_rfl) ?_ _
        go_wp2_with fail
        go_ret
        exact ⟨rfl, Hu10.out.drew⟩
end Go.Proofs.YtbceapeoknngnaaGreatDoor
