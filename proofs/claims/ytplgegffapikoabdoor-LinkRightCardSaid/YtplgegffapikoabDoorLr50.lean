/-
  LinkRight: the law's walk.
-/
import Derived.Test.YtplgegffapikoabDoorLr38
import Derived.Test.YtplgegffapikoabDoorLr42
import Derived.Test.YtplgegffapikoabDoorLr43
import Derived.Test.YtplgegffapikoabDoorLr44
import Derived.Test.YtplgegffapikoabDoorLr48
import Derived.Test.YtplgegffapikoabDoorLr49
import Derived.Deep.RegionHeld3
set_option linter.unusedVariables false
namespace Go.Proofs.YtplgegffapikoabDoor
open Go.RowKit
/-- What is stored where it stands turns nothing. -/
theorem setCell_self {w : World} {g i : Nat} {cs : Array Value} {t : TypeId} {fr : Nat × Nat} {v : Value} (hg : w.heap[g]? = some (.cells cs t fr)) (h : cs[i]? = some v) : w.setCell ⟨g, i, none⟩ v = w := by
  have hs : cs.setIfInBounds i v = cs := by
    apply Array.ext_getElem?
    intro j
    rw [Array.getElem?_setIfInBounds]
    split
    · rename_i e
      subst e
      split
      · exact h.symm
      · rename_i hn
        rw [Array.getElem?_eq_none (by omega)] at h
        cases h
    · rfl
  have hh : (w.heap.modify g fun | .cells c elem frozen => .cells (if (none : Option Nat).isSome then c else c.setIfInBounds i v) elem frozen | o => o) = w.heap := by
    apply Array.ext_getElem?
    intro j
    rw [Array.getElem?_modify]
    split
    · rename_i e
      subst e
      rw [hg]
      simp [hs]
    · rfl
  unfold World.setCell
  exact congrArg (fun h => { w with heap := h }) hh
theorem raw_len {F : Fil} (h : FilPr F) : (printP F).length ≤ 30000 := by
  have hok : okFil F := ⟨fun m hm => ⟨fun x hx => by have := ((h.msgs m hm).fields x hx).num; exact ⟨by omega, by omega⟩, fun n hn => by have := (h.msgs m hm).barred n hn; exact ⟨by omega, by omega⟩⟩, fun e he x hx => by have := ((h.enums e he).items x hx).2; exact ⟨by omega, by omega⟩⟩
  refine Nat.le_trans (print_le hok) ?_
  unfold wFil
  have he : (F.enums.map wEnu).sum ≤ 800 * F.enums.length := by
    refine sum_le _ _ _ (fun e he => ?_)
    have h1 := h.enums e he
    have h2 := sum_le wItm 48 e.items (fun x hx => by have := (h1.items x hx).1.len; unfold wItm; omega)
    have := h1.name.len; have := h1.ilen
    unfold wEnu
    omega
  have hm : (F.msgs.map wMsg).sum ≤ 2100 * F.msgs.length := by
    refine sum_le _ _ _ (fun m hm => ?_)
    have h1 := h.msgs m hm
    have h2 := sum_le wFld 96 m.fields (fun x hx => by
      have h3 := h1.fields x hx
      have := h3.name.len
      have ht : x.type.length ≤ 16 := by
        rcases h3.kind with k | k
        · rw [k.2.2.2]; simp
        · exact k.2.1.len.2
      unfold wFld; omega)
    have := h1.name.len; have := h1.flen; have := h1.blen
    unfold wMsg
    omega
  have := h.len
  omega
theorem filSz_of {F : Fil} (h1 : F.msgs.length ≤ 10) (h2 : F.enums.length ≤ 10) (h3 : ∀ m ∈ F.msgs, m.fields.length ≤ 16 ∧ m.barred.length ≤ 16) (h4 : ∀ e ∈ F.enums, e.items.length ≤ 16) : FilSz F :=
  ⟨by omega, by omega, fun m hm => by have := h3 m hm; omega, fun e he => by have := h4 e he; omega⟩

set_option maxRecDepth 100000 in
set_option maxHeartbeats 6400000 in
theorem linkRight_any (v : Value) (f : Fil) (w : World) (hf : FilV All w v f) (hsz : FilSz f) (hev : EvR w) (hpw : Pow w) :
    Calls Tryd.prog 7 #[v] w fun e w' => e = .returned (.bool true) ∧ Up w w' := by
  have Hf := Lib.hid hf
  obtain ⟨vm, ve, rfl, hm, he⟩ := hf
  obtain ⟨mo, mc, rfl, _, _⟩ := hm.val
  obtain ⟨eo, ec, rfl, _, _⟩ := he.val
  have HEv := Lib.hid hev; have HPw := Lib.hid hpw; have Hsz := Lib.hid hsz
  clear hev hpw hm he hsz
  obtain ⟨w0, hw0⟩ : ∃ w0, w0 = w.alloc (.cells #[.slice mo f.msgs.length mc, .slice eo f.enums.length ec] 25) := ⟨_, rfl⟩
  have hu0 : Up w w0 := hw0 ▸ (Up.refl w).alloc _
  have hb0 := hw0 ▸ blk_new w (.cells #[.slice mo f.msgs.length mc, .slice eo f.enums.length ec] 25) rfl
  have ha := alive_3 w0 (HEv.out.up hu0)
  have HU0 := Lib.hid hu0; have HB0 := Lib.hid hb0
  have Ha := Lib.hid ha
  clear hu0 hb0 ha
  go_enter Tryd.func7, Tryd.ntmps7
  go_upto_region 1 with (fail)
  rw [← hw0]
  clear hw0
  go_wp2_with fail
  refine Ha.out.mono ?_
  rintro e w1 ⟨rfl, hu1⟩
  have HU1 := Lib.hid (HU0.out.trans hu1)
  have x0 : w1.cell? ⟨w.heap.size, 0, none⟩ = some (.slice mo f.msgs.length mc) := cell_of_row w1 _ 0 _ _ _ (hu1.blk HB0.out)
  have x1 : w1.cell? ⟨w.heap.size, 1, none⟩ = some (.slice eo f.enums.length ec) := cell_of_row w1 _ 1 _ _ _ (hu1.blk HB0.out)
  clear hu1 Ha
  have hl := link_l _ f w1 (Hf.out.up HU1.out) Hsz.out
  have Hl := Lib.hid hl
  clear hl
  go_wp2_with fail
  refine Hl.out.mono ?_
  rintro e w2 ⟨va, rfl, hfa, hu2⟩
  have Hfa := Lib.hid hfa
  obtain ⟨vm2, ve2, rfl, hm2, he2⟩ := hfa
  obtain ⟨ao, ac, rfl, _, _⟩ := hm2.val
  obtain ⟨bo, bc, rfl, _, _⟩ := he2.val
  have HU2 := Lib.hid (HU1.out.trans hu2)
  have hlr := fun a (h : linkN f = (a, 0, 0)) (h0 : (linkN f).2.1 = 0) (ha : (wrongN (linkF f)).1 = 0) => link_right h h0 ha
  have hbad : (linkN f).2.1 ≠ 0 → (linkN f).1 = ⟨[], []⟩ := fun h => by
    unfold linkN at h ⊢
    by_cases hw : (wrongN (linkF f)).1 ≠ 0
    · rw [if_pos hw]
    · rw [if_neg hw] at h; exact absurd rfl h
  have hgood : (linkN f).2.1 = 0 → FilOk (linkN f).1 ∧ wrongN (linkN f).1 = (0, 0) ∧ linkN (linkN f).1 = ((linkN f).1, 0, 0) ∧ numbered (linkN f).1 = (linkN f).1 ∧ FilPr (linkN f).1 ∧ linkN ⟨(linkN f).1.msgs.map readM, (linkN f).1.enums⟩ = ((linkN f).1, 0, 0) ∧ (linkN f).2.2 = 0 := fun h => by
    by_cases hw : (wrongN (linkF f)).1 ≠ 0
    · exfalso
      unfold linkN at h
      rw [if_pos hw] at h
      exact hw h
    · have hw := Decidable.not_not.1 hw
      have e : linkN f = ((linkN f).1, 0, 0) := by
        unfold linkN
        rw [if_neg (fun x => x hw)]
      obtain ⟨g1, g2, g3, g4, g5, g6⟩ := link_right e h hw
      exact ⟨g1, g2, g3, g4, g5, g6, by rw [e]⟩
  have Hbad := Lib.hid hbad; have Hgood := Lib.hid hgood
  clear hm2 he2 hu2 Hl hlr hbad hgood x0 x1
  obtain ⟨R, hR⟩ : ∃ R, linkN f = R := ⟨_, rfl⟩
  rw [hR] at Hfa Hbad Hgood ⊢
  clear hR
  obtain ⟨X, hX⟩ : ∃ X, w2.heap.size = X := ⟨_, rfl⟩
  obtain ⟨w3, hw3⟩ : ∃ w3, w3 = (w2.alloc (.cells #[.slice ao R.1.msgs.length ac, .slice bo R.1.enums.length bc] 25)).alloc (.cells #[.int .i64 R.2.1, .int .i64 (R.2.2 : Int)] 28) := ⟨_, rfl⟩
  have HB1 := Lib.hid (hw3 ▸ blk_old _ (blk_new w2 (.cells #[.slice ao R.1.msgs.length ac, .slice bo R.1.enums.length bc] 25) hX.symm))
  have HB2 := Lib.hid (hw3 ▸ blk_new (w2.alloc (.cells #[.slice ao R.1.msgs.length ac, .slice bo R.1.enums.length bc] 25)) (.cells #[.int .i64 R.2.1, .int .i64 (R.2.2 : Int)] 28) (g := X + 1) (by simp [← hX]))
  have HU3 := Lib.hid (hw3 ▸ (((Up.refl w2).alloc (.cells #[.slice ao R.1.msgs.length ac, .slice bo R.1.enums.length bc] 25)).alloc (.cells #[.int .i64 R.2.1, .int .i64 (R.2.2 : Int)] 28)) : Up w2 w3)
  have hXw : w.heap.size ≤ X := by have := HU2.out.size; omega
  have HF3 := Lib.hid (((Hfa.out.keep Keep.lt).up HU3.out).keep (Keep.weak (S' := fun b => b ≠ X + 1) (fun b hb => by unfold Lt at hb; omega)))
  have HFA := Lib.hid (HF3.out.keep (Keep.weak (S' := All) (fun _ _ => trivial)))
  go_upto_region 4 with (fail)
  rw [← hw3]
  have HX := Lib.hid hX; have HXw := Lib.hid hXw
  clear hw3 hX hXw
  have z0 : w3.cell? ⟨X + 1, 0, none⟩ = some (.int .i64 R.2.1) := cell_of_row w3 _ 0 _ _ _ HB2.out
  have y1 : w3.cell? ⟨X, 0, none⟩ = some (.slice ao R.1.msgs.length ac) := cell_of_row w3 X 0 _ _ _ HB1.out
  have y2 : w3.cell? ⟨X, 1, none⟩ = some (.slice bo R.1.enums.length bc) := cell_of_row w3 X 1 _ _ _ HB1.out
  have HUw := Lib.hid (HU2.out.trans HU3.out)
  have hfd : ∀ (a b : Int) (w : World), (Instr.field 28 (.agg #[.int .i64 a, .int .i64 b]) 0).run Tryd.prog w = .ok (.int .i64 a) w := fun _ _ _ => by kernel_rfl
  by_cases h0 : R.2.1 = 0
  case neg =>
    have j : (R.2.1 != 0) = true := by rw [bne_iff_ne]; exact h0
    have hr1 := Hbad.out h0
    have Hr1 := Lib.hid hr1
    clear h0 hr1
    go_wp2_with fail
    refine (samefile_r _ _ R.1 w3 HFA.out (by rw [Hr1.out]; exact filV_nil w3)).mono ?_
    rintro e w8 ⟨rfl, hu8⟩
    go_wp2_with fail
    go_ret
    exact ⟨rfl, HUw.out.trans hu8⟩
  case pos =>
    obtain ⟨g1, g2, g3, g4, g5, g6, g7⟩ := Hgood.out h0
    rw [h0] at z0
    have HB20 := Lib.hid (show w3.heap[X + 1]? = some (.cells #[.int .i64 0, .int .i64 0] 28 (0, 0)) from by have := HB2.out; rw [h0, g7] at this; exact this)
    have Hok := Lib.hid g1; have Hla := Lib.hid g3; have Hnu := Lib.hid g4; have Hpr := Lib.hid g5; have Hlp := Lib.hid g6
    have hwr := wrong_l _ R.1 w3 HFA.out
    rw [g2] at hwr
    have Hwr := Lib.hid hwr
    clear h0 g1 g2 g3 g4 g5 g6 g7 hwr Hgood Hbad HB2
    go_wp2_with fail
    refine Hwr.out.mono ?_
    rintro e w4 ⟨rfl, hu4⟩
    have HU4 := Lib.hid (HUw.out.trans hu4)
    have Hu4 := Lib.hid hu4
    have y1 := hu4.cell_some y1; have y2 := hu4.cell_some y2
    clear hu4 Hwr z0
    have Y1 := Lib.hid y1; have Y2 := Lib.hid y2
    have HF4 := Lib.hid (HFA.out.up Hu4.out)
    have hk10 : R.1.msgs.length ≤ 10 := by have := Hpr.out.len; omega
    have Hm4 := Lib.hid (show RdS DMsg 3 All w4 (.slice ao R.1.msgs.length ac) R.1.msgs from by
      obtain ⟨a, b, e, h1, _⟩ := HF4.out
      injection e with e
      injection e with e
      injection e with e1 e2
      subst e1
      exact h1)
    go_wp2_with fail
    go_loopw [32] (fun i wr => ∃ k : Nat, k ≤ R.1.msgs.length ∧ i = .int .i64 k ∧ Up w4 wr) (fun i _ => R.1.msgs.length - (intOf i).toNat)
    case atStart => exact ⟨0, by omega, rfl, Up.refl _⟩
    case round =>
      obtain ⟨k, hk, rfl, hu⟩ := hrel
      have Hu := Lib.hid hu
      clear y1 y2
      by_cases hlt : k < R.1.msgs.length
      · obtain ⟨b, o, cs, hao, hb, hl, hcs, hd⟩ := (Hm4.out.up stable_msg hu).at hlt
        obtain ⟨vf, vb, hd, hf1, hb1', hn⟩ := hd
        obtain ⟨fo, fc, rfl, _, _⟩ := hf1.val
        obtain ⟨go_, gc, rfl, _, _⟩ := hb1'.val
        subst hd
        subst hao
        have c0 := hcs 0 _ rfl
        have c1 := hcs 1 _ rfl
        have c2 := hcs 2 _ rfl
        simp only [Nat.add_zero] at c0
        have k0 : (0 : Int) ≤ (k : Int) := by omega
        have k1 : (k : Int) < (R.1.msgs.length : Int) := by omega
        have Hf1 := Lib.hid hf1
        have Hxk := Lib.hid (fun x (hx : x ∈ R.1.msgs[k].fields) => (msg_field Hok.out (List.getElem_mem hlt) hx).1)
        clear hcs hl hf1 hb1' hu hn
        generalize R.1.msgs[k] = m at *
        obtain ⟨wo, rfl⟩ : ∃ wo : World, wo = wr := ⟨_, rfl⟩
        go_wp2_with fail
        have hua : Up wo (wo.alloc (.cells #[.string ⟨m.name.toArray⟩, .slice fo m.fields.length fc, .slice go_ m.barred.length gc] 46)) := (Up.refl wo).alloc _
        have Hua := Lib.hid hua; clear hua
        go_loopw [39] (fun i wr => ∃ q : Nat, q ≤ m.fields.length ∧ i = .int .i64 q ∧ Up wo wr) (fun i _ => m.fields.length - (intOf i).toNat)
        case atStart => exact ⟨0, by omega, rfl, Hua.out⟩
        case round =>
          clear c0 c1 c2
          obtain ⟨q, hq, rfl, hu2⟩ := hrel
          have Hu2 := Lib.hid hu2
          by_cases hlt2 : q < m.fields.length
          · obtain ⟨b2, o2, cs, hfo, hb2, hl, hcs, hd⟩ := (Hf1.out.up stable_fld hu2).at hlt2
            obtain ⟨hd, hx⟩ := hd
            subst hd
            subst hfo
            have c0 := hcs 0 _ rfl
            have c1 := hcs 1 _ rfl
            have c2 := hcs 2 _ rfl
            have c3 := hcs 3 _ rfl
            have c4 := hcs 4 _ rfl
            have c5 := hcs 5 _ rfl
            simp only [Nat.add_zero] at c0
            have k20 : (0 : Int) ≤ (q : Int) := by omega
            have k21 : (q : Int) < (m.fields.length : Int) := by omega
            have Hxo := Lib.hid (Hxk.out _ (List.getElem_mem hlt2))
            clear hcs hl hx
            generalize m.fields[q] = y at *
            obtain ⟨wi, hwi⟩ : ∃ wi : World, wi = wr := ⟨_, rfl⟩
            have Hut := Lib.hid (Hu.out.trans hu2)
            have y1 := Hut.out.cell_some Y1.out; have y2 := Hut.out.cell_some Y2.out
            have mz := lt_of_block (Hut.out.blk (Hu4.out.blk HB1.out))
            have hfm := fun W (u : Up wr W) => find_msg_l _ R.1 y.type W (HF4.out.up (Hut.out.trans u))
            have hfe := fun W (u : Up wr W) => find_enu_l _ R.1 y.type W (HF4.out.up (Hut.out.trans u))
            have Hfm := Lib.hid hfm; have Hfe := Lib.hid hfe
            clear hfm hfe hu2 hwi
            by_cases k10 : y.kind = 10
            case pos =>
              have hi := Hxo.out.sub k10
              have hi2 : 0 ≤ idxP (fun m => m.name == y.type) R.1.msgs := by omega
              generalize idxP (fun m => m.name == y.type) R.1.msgs = I at *
              rw [k10] at c2
              clear k10 hi
              go_wp2_with (first
                | (go_at_call 24; go_must (refine (Hfm.out _ ((Up.refl _).alloc _)).mono ?_; rintro e w5 ⟨rfl, hu5⟩; have d2 : w5.cell? ⟨wr.heap.size, 2, none⟩ = some (.int .i64 10) := hu5.cell_some (cell_of_row _ _ 2 _ _ _ (blk_new wr _ rfl)))))
              go_roundw
              case rel => exact ⟨q + 1, by omega, by go_num, Hu2.out.trans (((Up.refl _).alloc _).trans hu5)⟩
              case measure => simp [intOf]; omega
            case neg =>
              by_cases k5 : y.kind = 5
              case pos =>
                have hi := Hxo.out.enu k5
                have hi2 : 0 ≤ idxP (fun m => m.name == y.type) R.1.enums := by omega
                generalize idxP (fun m => m.name == y.type) R.1.enums = I at *
                rw [k5] at c2
                clear k10 k5 hi
                go_wp2_with (first
                  | (go_at_call 25; go_must (refine (Hfe.out _ ((Up.refl _).alloc _)).mono ?_; rintro e w5 ⟨rfl, hu5⟩)))
                go_roundw
                case rel => exact ⟨q + 1, by omega, by go_num, Hu2.out.trans (((Up.refl _).alloc _).trans hu5)⟩
                case measure => simp [intOf]; omega
              case neg =>
                have e10 : (y.kind == 10) = false := by rw [beq_eq_false_iff_ne]; exact k10
                have e5 : (y.kind == 5) = false := by rw [beq_eq_false_iff_ne]; exact k5
                clear k10 k5
                go_wp2_with fail
                go_roundw
                case rel => exact ⟨q + 1, by omega, by go_num, Hu2.out.alloc _⟩
                case measure => simp [intOf]; omega
          · go_wp2_with fail
            go_roundw
            case rel => exact ⟨k + 1, by omega, by go_num, Hu.out.trans Hu2.out⟩
            case measure => simp [intOf]; omega
      · obtain ⟨w5, hw5⟩ : ∃ w5 : World, w5 = wr := ⟨_, rfl⟩
        have y1 := hu.cell_some Y1.out; have y2 := hu.cell_some Y2.out
        have hl2 := link_l _ R.1 wr (HF4.out.up hu) (filSz_of (by have := Hpr.out.len; omega) (by have := Hpr.out.len; omega) (fun m hm => by have := Hpr.out.msgs m hm; exact ⟨this.flen, this.blen⟩) (fun e he => (Hpr.out.enums e he).ilen))
        rw [Hla.out] at hl2
        have Hl2 := Lib.hid hl2
        clear hl2 hw5
        go_wp2_with fail
        refine Hl2.out.mono ?_
        rintro e w5 ⟨vb5, rfl, hf5, hu5⟩
        have Hf5 := Lib.hid (hf5.keep (Keep.weak (S' := All) (fun _ _ => trivial)))
        obtain ⟨vm5, ve5, rfl, hm5, he5⟩ := hf5
        obtain ⟨ao5, ac5, rfl, _, _⟩ := hm5.val
        obtain ⟨bo5, bc5, rfl, _, _⟩ := he5.val
        have Hu5 := Lib.hid (Hu4.out.trans (hu.trans hu5))
        have hy5 := Hu5.out.blk HB20.out
        have z0 := cell_of_row w5 (X + 1) 0 _ _ _ hy5
        have z1 := cell_of_row w5 (X + 1) 1 _ _ _ hy5
        have z2 := lt_of_block hy5
        have z3 := frozen_of_row w5 (X + 1) 0 _ _ hy5
        have z4 := frozen_of_row w5 (X + 1) 1 _ _ hy5
        have Hy5 := Lib.hid hy5
        clear hm5 he5 hu5 hu Hl2 y1 y2 hy5
        go_upto_region 19 with (fail)
        have hself : (w5.setCell ⟨X + 1, 0, none⟩ (.int .i64 0)).setCell ⟨X + 1, 1, none⟩ (.int .i64 0) = w5 := by
          rw [setCell_self Hy5.out rfl]
          exact setCell_self Hy5.out rfl
        obtain ⟨Z, hZ⟩ : ∃ Z, w5.heap.size = Z := ⟨_, rfl⟩
        rw [hself]
        obtain ⟨w6, hw6⟩ : ∃ w6, w6 = w5.alloc (.cells #[.slice ao5 R.1.msgs.length ac5, .slice bo5 R.1.enums.length bc5] 25) := ⟨_, rfl⟩
        have hu6 : Up w5 w6 := hw6 ▸ (Up.refl w5).alloc _
        have hb6 := hw6 ▸ blk_new w5 (.cells #[.slice ao5 R.1.msgs.length ac5, .slice bo5 R.1.enums.length bc5] 25) hZ.symm
        rw [← hw6, hZ]
        have Hu6 := Lib.hid (Hu5.out.trans hu6)
        have z0 := cell_of_row w6 (X + 1) 0 _ _ _ (Hu6.out.blk HB20.out)
        have b0 : w6.cell? ⟨Z, 0, none⟩ = some (.slice ao5 R.1.msgs.length ac5) := cell_of_row w6 Z 0 _ _ _ hb6
        have b1 : w6.cell? ⟨Z, 1, none⟩ = some (.slice bo5 R.1.enums.length bc5) := cell_of_row w6 Z 1 _ _ _ hb6
        have y1 := (hu6.cell_some ((Hu5.out.cell_some (cell_of_row w3 X 0 _ _ _ HB1.out))))
        have y2 := (hu6.cell_some ((Hu5.out.cell_some (cell_of_row w3 X 1 _ _ _ HB1.out))))
        simp only [List.getElem?_toArray, List.getElem?_cons_zero, List.getElem?_cons_succ] at y1 y2 z0
        have Hf6 := Lib.hid (Hf5.out.up hu6)
        have Y16 := Lib.hid y1; have Y26 := Lib.hid y2
        clear hself hw6 hu6 hb6 z1 z2 z3 z4 hZ
        go_wp2_with fail
        refine (samefile_r _ _ R.1 w6 (HFA.out.up Hu6.out) Hf6.out).mono ?_
        rintro e w7 ⟨rfl, hu7⟩
        have Hu7 := Lib.hid (Hu6.out.trans hu7)
        have y1 := hu7.cell_some Y16.out; have y2 := hu7.cell_some Y26.out
        clear z0 b0 b1
        have hlen := raw_len Hpr.out
        have hpt := print_s _ R.1 w7 (HFA.out.up Hu7.out) (by omega) (HPw.out.up (HUw.out.trans Hu7.out))
        have Hpt := Lib.hid hpt
        clear hpt hlen hu7
        go_wp2_with fail
        refine Hpt.out.mono ?_
        rintro e w8 ⟨rfl, hu8⟩
        have Hu8 := Lib.hid (Hu7.out.trans hu8)
        clear hu8 Hpt y1 y2
        go_wp2_with fail
        refine (parse_s ⟨(printP R.1).toArray⟩ w8 (HEv.out.up (HUw.out.trans Hu8.out))).mono ?_
        rintro e w9 ⟨v9, rfl, hf9, hu9⟩
        have Hg9 := Lib.hid (hf9.keep (Keep.weak (S' := All) (fun _ _ => trivial)))
        obtain ⟨vm9, ve9, rfl, hm9, he9⟩ := hf9
        obtain ⟨ao9, ac9, rfl, _, _⟩ := hm9.val
        obtain ⟨bo9, bc9, rfl, _, _⟩ := he9.val
        have Hu9 := Lib.hid (Hu8.out.trans hu9)
        obtain ⟨P, hP⟩ : ∃ P, parseS (printP R.1) = P := ⟨_, rfl⟩
        have hst : (⟨(printP R.1).toArray⟩ : ByteArray).data.toList = printP R.1 := rfl
        rw [hst, hP] at Hg9 ⊢
        have HP := Lib.hid hP
        have hy5 := Hu9.out.blk HB20.out
        have z0 := cell_of_row w9 (X + 1) 0 _ _ _ hy5
        have z1 := cell_of_row w9 (X + 1) 1 _ _ _ hy5
        have z2 := lt_of_block hy5
        have z3 := frozen_of_row w9 (X + 1) 0 _ _ hy5
        have z4 := frozen_of_row w9 (X + 1) 1 _ _ hy5
        have Hy9 := Lib.hid hy5
        clear hm9 he9 hu9 hy5 hP hst
        go_upto_region 22 with (fail)
        obtain ⟨Z9, hZ9⟩ : ∃ Z9, w9.heap.size = Z9 := ⟨_, rfl⟩
        rw [hZ9]
        rcases Nat.lt_or_ge 3000 (printP R.1).length with hb | hb
        · have hPe : P = (⟨[], []⟩, 4, 0) := by rw [← HP.out]; exact parse_much hb
          have h1 := heap_setCell_same w9 (X + 1) 0 _ _ (.int .i64 P.2.1) Hy9.out
          have h2 := heap_setCell_same (w9.setCell ⟨X + 1, 0, none⟩ (.int .i64 P.2.1)) (X + 1) 1 _ _ (.int .i64 (P.2.2 : Int)) h1
          obtain ⟨wa, hwa⟩ : ∃ wa, wa = ((w9.setCell ⟨X + 1, 0, none⟩ (.int .i64 P.2.1)).setCell ⟨X + 1, 1, none⟩ (.int .i64 (P.2.2 : Int))).alloc (.cells #[.slice ao9 P.1.msgs.length ac9, .slice bo9 P.1.enums.length bc9] 25) := ⟨_, rfl⟩
          have h3 : wa.heap[X + 1]? = _ := hwa ▸ blk_old _ h2
          have hU : Up w wa := by
            rw [hwa]
            have := HXw.out
            exact (((HUw.out.trans Hu9.out).setCell (p := ⟨X + 1, 0, none⟩) (by simp only; omega) _).setCell (p := ⟨X + 1, 1, none⟩) (by simp only; omega) _).alloc _
          have q0 : wa.cell? ⟨X + 1, 0, none⟩ = some (.int .i64 4) := by
            rw [cell_of_row wa (X + 1) 0 _ _ _ h3, hPe]; rfl
          rw [← hwa]
          have HU := Lib.hid hU
          clear h1 h2 h3 hwa hPe hb z0 z1 z2 z3 z4 hU
          go_wp2_with fail
          go_ret
          exact ⟨rfl, HU.out⟩
        · have hPe : P = (⟨R.1.msgs.map readM, R.1.enums⟩, 0, 0) := by rw [← HP.out]; exact parse_print Hpr.out hb
          have hP1 : P.2.1 = 0 := by rw [hPe]
          have hP2 : P.2.2 = 0 := by rw [hPe]
          have hself : (w9.setCell ⟨X + 1, 0, none⟩ (.int .i64 P.2.1)).setCell ⟨X + 1, 1, none⟩ (.int .i64 (P.2.2 : Int)) = w9 := by
            rw [hP1, hP2]
            rw [setCell_self Hy9.out rfl]
            exact setCell_self Hy9.out rfl
          rw [hself]
          obtain ⟨wa, hwa⟩ : ∃ wa, wa = w9.alloc (.cells #[.slice ao9 P.1.msgs.length ac9, .slice bo9 P.1.enums.length bc9] 25) := ⟨_, rfl⟩
          have hua : Up w9 wa := hwa ▸ (Up.refl w9).alloc _
          have hba := hwa ▸ blk_new w9 (.cells #[.slice ao9 P.1.msgs.length ac9, .slice bo9 P.1.enums.length bc9] 25) hZ9.symm
          rw [← hwa]
          have Hua := Lib.hid (Hu9.out.trans hua)
          have p0 : wa.cell? ⟨Z9, 0, none⟩ = some (.slice ao9 P.1.msgs.length ac9) := cell_of_row wa Z9 0 _ _ _ hba
          have p1 : wa.cell? ⟨Z9, 1, none⟩ = some (.slice bo9 P.1.enums.length bc9) := cell_of_row wa Z9 1 _ _ _ hba
          have q0 := cell_of_row wa (X + 1) 0 _ _ _ (Hua.out.blk HB20.out)
          have hl3 := link_l _ P.1 wa (Hg9.out.up hua) (by
            rw [hPe]
            refine filSz_of ?_ ?_ ?_ ?_
            · simp only [List.length_map]; have := Hpr.out.len; omega
            · have := Hpr.out.len; simp only; omega
            · intro m hm
              obtain ⟨m0, hm0, rfl⟩ := List.mem_map.1 hm
              have h3 := Hpr.out.msgs m0 hm0
              unfold readM
              simp only [List.length_map, numF_len]
              exact ⟨h3.flen, h3.blen⟩
            · intro e he
              exact (Hpr.out.enums e he).ilen)
          have hlk : linkN P.1 = (R.1, 0, 0) := by rw [hPe]; exact Hlp.out
          rw [hlk] at hl3
          have Hl3 := Lib.hid hl3
          clear hPe hP1 hP2 hself hwa hua hba hl3 hlk hb z0 z1 z2 z3 z4 hZ9
          go_wp2_with fail
          refine Hl3.out.mono ?_
          rintro e wb ⟨vb, rfl, hfb, hub⟩
          have Hfb := Lib.hid (hfb.keep (Keep.weak (S' := All) (fun _ _ => trivial)))
          obtain ⟨vmb, veb, rfl, hmb, heb⟩ := hfb
          obtain ⟨aob, acb, rfl, _, _⟩ := hmb.val
          obtain ⟨bob, bcb, rfl, _, _⟩ := heb.val
          have Hub := Lib.hid (Hua.out.trans hub)
          have hy5 := Hub.out.blk HB20.out
          have z0 := cell_of_row wb (X + 1) 0 _ _ _ hy5
          have z1 := cell_of_row wb (X + 1) 1 _ _ _ hy5
          have z2 := lt_of_block hy5
          have z3 := frozen_of_row wb (X + 1) 0 _ _ hy5
          have z4 := frozen_of_row wb (X + 1) 1 _ _ hy5
          have Hyb := Lib.hid hy5
          clear hmb heb hub hy5 q0 p0 p1 Hl3
          go_upto_region 25 with (fail)
          obtain ⟨Zb, hZb⟩ : ∃ Zb, wb.heap.size = Zb := ⟨_, rfl⟩
          have hself : (wb.setCell ⟨X + 1, 0, none⟩ (.int .i64 0)).setCell ⟨X + 1, 1, none⟩ (.int .i64 0) = wb := by
            rw [setCell_self Hyb.out rfl]
            exact setCell_self Hyb.out rfl
          obtain ⟨wc, hwc⟩ : ∃ wc, wc = wb.alloc (.cells #[.slice aob R.1.msgs.length acb, .slice bob R.1.enums.length bcb] 25) := ⟨_, rfl⟩
          have huc : Up wb wc := hwc ▸ (Up.refl wb).alloc _
          have hbc := hwc ▸ blk_new wb (.cells #[.slice aob R.1.msgs.length acb, .slice bob R.1.enums.length bcb] 25) hZb.symm
          rw [hself, ← hwc, hZb]
          have Huc := Lib.hid (Hub.out.trans huc)
          have q0 : wc.cell? ⟨X + 1, 0, none⟩ = some (.int .i64 0) := cell_of_row wc (X + 1) 0 _ _ _ (Huc.out.blk HB20.out)
          have y1 : wc.cell? ⟨X, 0, none⟩ = some (.slice ao R.1.msgs.length ac) := cell_of_row wc X 0 _ _ _ (Huc.out.blk HB1.out)
          have y2 : wc.cell? ⟨X, 1, none⟩ = some (.slice bo R.1.enums.length bc) := cell_of_row wc X 1 _ _ _ (Huc.out.blk HB1.out)
          have y3 : wc.cell? ⟨Zb, 0, none⟩ = some (.slice aob R.1.msgs.length acb) := cell_of_row wc Zb 0 _ _ _ hbc
          have y4 : wc.cell? ⟨Zb, 1, none⟩ = some (.slice bob R.1.enums.length bcb) := cell_of_row wc Zb 1 _ _ _ hbc
          have hnn := fun W (u : Up wc W) => numbered_r _ R.1 W (HFA.out.up (Huc.out.trans u)) (by omega) (fun m hm => by have := (Hpr.out.msgs m hm).flen; omega)
          rw [Hnu.out] at hnn
          have Hnn := Lib.hid hnn
          have Hfc := Lib.hid (Hfb.out.up huc)
          clear hself hwc huc hbc hnn z0 z1 z2 z3 z4 hZb
          go_region_held3 (fun w' => w'.cell? ⟨X + 1, 0, none⟩ = some (.int .i64 0) ∧ w'.cell? ⟨X, 0, none⟩ = some (.slice ao R.1.msgs.length ac) ∧ w'.cell? ⟨X, 1, none⟩ = some (.slice bo R.1.enums.length bc) ∧ w'.cell? ⟨Zb, 0, none⟩ = some (.slice aob R.1.msgs.length acb) ∧ w'.cell? ⟨Zb, 1, none⟩ = some (.slice bob R.1.enums.length bcb)) (first | go_keep | exact ⟨q0, y1, y2, y3, y4⟩ | exact ⟨hx2.cell_some q0, hx2.cell_some y1, hx2.cell_some y2, hx2.cell_some y3, hx2.cell_some y4⟩ | exact ⟨hx3.cell_some q0, hx3.cell_some y1, hx3.cell_some y2, hx3.cell_some y3, hx3.cell_some y4⟩)
            (first
              | (go_at_call 20; refine (Hnn.out _ ((Up.refl _).drew)).mono ?_; rintro e wd ⟨vd, rfl, hfd2, hud⟩; have Hfd := Lib.hid hfd2; have hx2 := (Up.refl wc).drew.trans hud; clear hud hfd2)
              | (go_at_call 11; refine (samefile_r _ _ R.1 _ Hfd.out (Hfc.out.up hx2)).mono ?_; rintro e we ⟨rfl, hue⟩; have hx3 := hx2.trans hue; clear hue))
          go_wp2_with fail
          go_ret
          exact ⟨rfl, HUw.out.trans (Huc.out.trans hx3)⟩
end Go.Proofs.YtplgegffapikoabDoor
