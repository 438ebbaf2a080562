/-
  pressref2.SameFile, of one file twice.
-/
import Derived.Test.YtplgegffapikoabDoorLr22
import Derived.Test.YtplgegffapikoabDoorLr30
import Derived.Test.YtplgegffapikoabDoorLr09
import Derived.Outline
import Derived.Deep.DeepMust
import Derived.BigQuiet
import Derived.Deep.QuietTactic
set_option linter.unusedVariables false
namespace Go.Proofs.YtplgegffapikoabDoor
open Go.RowKit

set_option maxRecDepth 100000 in
set_option maxHeartbeats 6400000 in
theorem samefile_r (va vb : Value) (f : Fil) (w : World) (ha : FilV All w va f) (hb : FilV All w vb f) :
    Calls Tryd.prog 11 #[va, vb] w fun e w' => e = .returned (.bool true) ∧ Up w w' := by
  obtain ⟨vm, ve, rfl, hm, he⟩ := ha
  obtain ⟨vm', ve', rfl, hm', he'⟩ := hb
  obtain ⟨mo, mc, rfl, hm1, hm2⟩ := hm.val
  obtain ⟨eo, ec, rfl, he1, he2⟩ := he.val
  obtain ⟨mo', mc', rfl, hm1', hm2'⟩ := hm'.val
  obtain ⟨eo', ec', rfl, he1', he2'⟩ := he'.val
  have Hm := Lib.hid hm; have He := Lib.hid he; have Hm' := Lib.hid hm'; have He' := Lib.hid he'; clear hm he hm' he'
  generalize f.msgs = ms at *
  generalize f.enums = es at *
  go_enter Tryd.func11, Tryd.ntmps11
  go_wp2_with fail
  have hb0 : ((w.alloc (.cells #[.slice mo ms.length mc, .slice eo es.length ec] 25)).alloc (.cells #[.slice mo' ms.length mc', .slice eo' es.length ec'] 25)).heap[w.heap.size]? = some (.cells #[.slice mo ms.length mc, .slice eo es.length ec] 25 (0, 0)) := blk_old _ (blk_new w _ rfl)
  have hb1 : ((w.alloc (.cells #[.slice mo ms.length mc, .slice eo es.length ec] 25)).alloc (.cells #[.slice mo' ms.length mc', .slice eo' es.length ec'] 25)).heap[w.heap.size + 1]? = some (.cells #[.slice mo' ms.length mc', .slice eo' es.length ec'] 25 (0, 0)) := blk_new (w.alloc _) _ (by simp)
  have hu0 : Up w ((w.alloc (.cells #[.slice mo ms.length mc, .slice eo es.length ec] 25)).alloc (.cells #[.slice mo' ms.length mc', .slice eo' es.length ec'] 25)) := ((Up.refl w).alloc _).alloc _
  generalize hw0 : (w.alloc (.cells #[.slice mo ms.length mc, .slice eo es.length ec] 25)).alloc (.cells #[.slice mo' ms.length mc', .slice eo' es.length ec'] 25) = w0 at *
  have Hb0 := Lib.hid hb0; have Hb1 := Lib.hid hb1; have Hu0 := Lib.hid hu0; clear hb0 hb1 hu0 hw0
  go_loopw [33] (fun i wr => ∃ k : Nat, k ≤ ms.length ∧ i = .int .i64 k ∧ Up w0 wr) (fun i _ => ms.length - (intOf i).toNat)
  case atStart => exact ⟨0, by omega, rfl, Up.refl _⟩
  case round =>
    obtain ⟨k, hk, rfl, hu⟩ := hrel
    have Hu := Lib.hid hu
    by_cases hlt : k < ms.length
    · obtain ⟨b, o, cs, rfl, hb, hl, hcs, hd⟩ := (Hm.out.up stable_msg (Hu0.out.trans hu)).at hlt
      obtain ⟨vf, vb, hd, hf1, hb1, hn⟩ := hd
      obtain ⟨fo, fc, rfl, hfc1, hfc2⟩ := hf1.val
      obtain ⟨bo, bc, rfl, hbc1, hbc2⟩ := hb1.val
      subst hd
      have c0 := hcs 0 _ rfl
      have c1 := hcs 1 _ rfl
      have c2 := hcs 2 _ rfl
      simp only [Nat.add_zero] at c0
      obtain ⟨b', o', cs', rfl, hb', hl', hcs', hd'⟩ := (Hm'.out.up stable_msg (Hu0.out.trans hu)).at hlt
      obtain ⟨vf', vb', hd', hf1', hb1', hn'⟩ := hd'
      obtain ⟨fo', fc', rfl, hfc1', hfc2'⟩ := hf1'.val
      obtain ⟨bo', bc', rfl, hbc1', hbc2'⟩ := hb1'.val
      subst hd'
      have d0 := hcs' 0 _ rfl
      have d1 := hcs' 1 _ rfl
      have d2 := hcs' 2 _ rfl
      simp only [Nat.add_zero] at d0
      have e0 : wr.cell? ⟨w.heap.size + 1, 0, none⟩ = some (.slice (some ⟨b', o', none⟩) ms.length mc') := cell_of_row wr _ 0 _ _ _ (hu.blk Hb1.out)
      have ez : w.heap.size + 1 < wr.heap.size := lt_of_block (hu.blk Hb1.out)
      have k0 : (0 : Int) ≤ (k : Int) := by omega
      have k1 : (k : Int) < (ms.length : Int) := by omega
      have Hf1 := Lib.hid hf1; have Hb1' := Lib.hid hb1; have Hf1' := Lib.hid hf1'; have Hb1'' := Lib.hid hb1'
      clear hcs hcs' hl hl' hf1 hb1 hf1' hb1' hu hn hn'
      generalize ms[k] = x at *
      obtain ⟨wo, rfl⟩ : ∃ wo : World, wo = wr := ⟨_, rfl⟩
      go_wp2_with fail
      have Hxa0 := Lib.hid (show ((wo.alloc (.cells #[.string ⟨x.name.toArray⟩, .slice fo x.fields.length fc, .slice bo x.barred.length bc] 46)).alloc (.cells #[.string ⟨x.name.toArray⟩, .slice fo' x.fields.length fc', .slice bo' x.barred.length bc'] 46)).heap[wo.heap.size]? = some (.cells #[.string ⟨x.name.toArray⟩, .slice fo x.fields.length fc, .slice bo x.barred.length bc] 46 (0, 0)) from blk_old _ (blk_new wo _ rfl))
      have Hxb0 := Lib.hid (show ((wo.alloc (.cells #[.string ⟨x.name.toArray⟩, .slice fo x.fields.length fc, .slice bo x.barred.length bc] 46)).alloc (.cells #[.string ⟨x.name.toArray⟩, .slice fo' x.fields.length fc', .slice bo' x.barred.length bc'] 46)).heap[wo.heap.size + 1]? = some (.cells #[.string ⟨x.name.toArray⟩, .slice fo' x.fields.length fc', .slice bo' x.barred.length bc'] 46 (0, 0)) from blk_new (wo.alloc _) _ (by simp))
      have Hua := Lib.hid (show Up wo ((wo.alloc (.cells #[.string ⟨x.name.toArray⟩, .slice fo x.fields.length fc, .slice bo x.barred.length bc] 46)).alloc (.cells #[.string ⟨x.name.toArray⟩, .slice fo' x.fields.length fc', .slice bo' x.barred.length bc'] 46)) from ((Up.refl wo).alloc _).alloc _)
      generalize hwa : (wo.alloc (.cells #[.string ⟨x.name.toArray⟩, .slice fo x.fields.length fc, .slice bo x.barred.length bc] 46)).alloc (.cells #[.string ⟨x.name.toArray⟩, .slice fo' x.fields.length fc', .slice bo' x.barred.length bc'] 46) = wa at *
      have Hxa := Hxa0; have Hxb := Hxb0
      have HF1 := Lib.hid (Hf1.out.up stable_fld Hua.out); have HF2 := Lib.hid (Hf1'.out.up stable_fld Hua.out); have HB1 := Lib.hid (Hb1'.out.up stable_int Hua.out); have HB2 := Lib.hid (Hb1''.out.up stable_int Hua.out)
      clear hwa c0 c1 c2 d0 d1 d2 e0 Hf1 Hf1' Hb1' Hb1'' Hxa0 Hxb0
      obtain ⟨wb, rfl⟩ : ∃ wb : World, wb = wa := ⟨_, rfl⟩
      have Huab := Lib.hid (Up.refl wb)
      go_loopw [69] (fun i wr => ∃ k2 : Nat, k2 ≤ x.fields.length ∧ i = .int .i64 k2 ∧ Up wb wr) (fun i _ => x.fields.length - (intOf i).toNat)
      case atStart => exact ⟨0, by omega, rfl, Up.refl _⟩
      case round =>
        obtain ⟨k2, hk2, rfl, hu2⟩ := hrel
        have Hu2 := Lib.hid hu2
        by_cases hlt2 : k2 < x.fields.length
        · obtain ⟨b2, o2, cs, rfl, hb2, hl, hcs, hd⟩ := (HF1.out.up stable_fld (Huab.out.trans hu2)).at hlt2
          obtain ⟨hd, _⟩ := hd
          subst hd
          have c0 := hcs 0 _ rfl
          have c1 := hcs 1 _ rfl
          have c2 := hcs 2 _ rfl
          have c3 := hcs 3 _ rfl
          have c4 := hcs 4 _ rfl
          have c5 := hcs 5 _ rfl
          simp only [Nat.add_zero] at c0
          obtain ⟨b3, o3, cs', rfl, hb3, hl', hcs', hd'⟩ := (HF2.out.up stable_fld (Huab.out.trans hu2)).at hlt2
          obtain ⟨hd', _⟩ := hd'
          subst hd'
          have d0 := hcs' 0 _ rfl
          have d1 := hcs' 1 _ rfl
          have d2 := hcs' 2 _ rfl
          have d3 := hcs' 3 _ rfl
          have d4 := hcs' 4 _ rfl
          have d5 := hcs' 5 _ rfl
          simp only [Nat.add_zero] at d0
          have a1 := cell_of_row wr _ 1 _ _ _ ((Huab.out.trans hu2).blk Hxa.out)
          have a2 := cell_of_row wr _ 1 _ _ _ ((Huab.out.trans hu2).blk Hxb.out)
          simp only [List.getElem?_toArray, List.getElem?_cons_succ, List.getElem?_cons_zero] at a1 a2
          have k20 : (0 : Int) ≤ (k2 : Int) := by omega
          have k21 : (k2 : Int) < (x.fields.length : Int) := by omega
          clear hcs hcs' hl hl' hu2
          generalize x.fields[k2] = y at *
          clear hlt2 hk2
          go_wp2_with fail
          go_quiet (fail)
          go_wp2_with fail
          go_roundw
          case rel => exact ⟨k2 + 1, by omega, by go_num, Hu2.out.drewN _⟩
          case measure => simp [intOf]; omega
        · have Hub := Lib.hid (Huab.out.trans hu2)
          obtain ⟨wc, rfl⟩ : ∃ wc : World, wc = wr := ⟨_, rfl⟩
          have a1 : wc.cell? ⟨wo.heap.size, 2, none⟩ = some (.slice bo x.barred.length bc) := cell_of_row wc _ 2 _ _ _ (Hub.out.blk Hxa.out)
          go_wp2_with fail
          clear a1 hlt2 hk2
          go_loopw [87] (fun i wr => ∃ k2 : Nat, k2 ≤ x.barred.length ∧ i = .int .i64 k2 ∧ Up wc wr) (fun i _ => x.barred.length - (intOf i).toNat)
          case atStart => exact ⟨0, by omega, rfl, Up.refl _⟩
          case round =>
            obtain ⟨k2, hk2, rfl, hu2⟩ := hrel
            have Hu2 := Lib.hid hu2
            by_cases hlt2 : k2 < x.barred.length
            · obtain ⟨b2, o2, cs, rfl, hb2, hl, hcs, hd⟩ := (HB1.out.up stable_int (Hub.out.trans hu2)).at hlt2
              obtain ⟨hd, _⟩ := hd
              subst hd
              have c0 := hcs 0 _ rfl
              simp only [Nat.add_zero, Nat.mul_one] at c0
              obtain ⟨b3, o3, cs', rfl, hb3, hl', hcs', hd'⟩ := (HB2.out.up stable_int (Hub.out.trans hu2)).at hlt2
              obtain ⟨hd', _⟩ := hd'
              subst hd'
              have d0 := hcs' 0 _ rfl
              simp only [Nat.add_zero, Nat.mul_one] at d0
              have a1 := cell_of_row wr _ 2 _ _ _ ((Hub.out.trans hu2).blk Hxa.out)
              have a2 := cell_of_row wr _ 2 _ _ _ ((Hub.out.trans hu2).blk Hxb.out)
              simp only [List.getElem?_toArray, List.getElem?_cons_succ, List.getElem?_cons_zero] at a1 a2
              have k20 : (0 : Int) ≤ (k2 : Int) := by omega
              have k21 : (k2 : Int) < (x.barred.length : Int) := by omega
              clear hcs hcs' hl hl' hu2
              generalize x.barred[k2] = y at *
              clear hlt2 hk2
              go_wp2_with fail
              go_quiet (fail)
              go_wp2_with fail
              go_roundw
              case rel => exact ⟨k2 + 1, by omega, by go_num, Hu2.out.drewN _⟩
              case measure => simp [intOf]; omega
            · go_wp2_with fail
              go_roundw
              case rel => exact ⟨k + 1, by omega, by go_num, Hu.out.trans (Hua.out.trans (Hub.out.trans hu2))⟩
              case measure => simp [intOf]; omega
    · obtain ⟨w1, rfl⟩ : ∃ w1 : World, w1 = wr := ⟨_, rfl⟩
      have e0 : w1.cell? ⟨w.heap.size, 1, none⟩ = some (.slice eo es.length ec) := cell_of_row w1 _ 1 _ _ _ (hu.blk Hb0.out)
      go_wp2_with fail
      clear e0 hlt hk
      go_loopw [106] (fun i wr => ∃ k : Nat, k ≤ es.length ∧ i = .int .i64 k ∧ Up w1 wr) (fun i _ => es.length - (intOf i).toNat)
      case atStart => exact ⟨0, by omega, rfl, Up.refl _⟩
      case round =>
        obtain ⟨k, hk, rfl, hu3⟩ := hrel
        have Hu3 := Lib.hid hu3
        by_cases hlt : k < es.length
        · obtain ⟨b, o, cs, rfl, hb, hl, hcs, hd⟩ := (He.out.up stable_enu (Hu0.out.trans (hu.trans hu3))).at hlt
          obtain ⟨vf, hd, hf1, hn⟩ := hd
          obtain ⟨fo, fc, rfl, hfc1, hfc2⟩ := hf1.val
          subst hd
          have c0 := hcs 0 _ rfl
          have c1 := hcs 1 _ rfl
          simp only [Nat.add_zero] at c0
          obtain ⟨b', o', cs', rfl, hb', hl', hcs', hd'⟩ := (He'.out.up stable_enu (Hu0.out.trans (hu.trans hu3))).at hlt
          obtain ⟨vf', hd', hf1', hn'⟩ := hd'
          obtain ⟨fo', fc', rfl, hfc1', hfc2'⟩ := hf1'.val
          subst hd'
          have d0 := hcs' 0 _ rfl
          have d1 := hcs' 1 _ rfl
          simp only [Nat.add_zero] at d0
          have e0 : wr.cell? ⟨w.heap.size + 1, 1, none⟩ = some (.slice (some ⟨b', o', none⟩) es.length ec') := cell_of_row wr _ 1 _ _ _ ((hu.trans hu3).blk Hb1.out)
          have ez : w.heap.size + 1 < wr.heap.size := lt_of_block ((hu.trans hu3).blk Hb1.out)
          have k0 : (0 : Int) ≤ (k : Int) := by omega
          have k1 : (k : Int) < (es.length : Int) := by omega
          have Hf1 := Lib.hid hf1; have Hf1' := Lib.hid hf1'
          clear hcs hcs' hl hl' hf1 hf1' hu3 hn hn'
          generalize es[k] = x at *
          obtain ⟨wo, rfl⟩ : ∃ wo : World, wo = wr := ⟨_, rfl⟩
          go_wp2_with fail
          have Hxa0 := Lib.hid (show ((wo.alloc (.cells #[.string ⟨x.name.toArray⟩, .slice fo x.items.length fc] 72)).alloc (.cells #[.string ⟨x.name.toArray⟩, .slice fo' x.items.length fc'] 72)).heap[wo.heap.size]? = some (.cells #[.string ⟨x.name.toArray⟩, .slice fo x.items.length fc] 72 (0, 0)) from blk_old _ (blk_new wo _ rfl))
          have Hxb0 := Lib.hid (show ((wo.alloc (.cells #[.string ⟨x.name.toArray⟩, .slice fo x.items.length fc] 72)).alloc (.cells #[.string ⟨x.name.toArray⟩, .slice fo' x.items.length fc'] 72)).heap[wo.heap.size + 1]? = some (.cells #[.string ⟨x.name.toArray⟩, .slice fo' x.items.length fc'] 72 (0, 0)) from blk_new (wo.alloc _) _ (by simp))
          have Hua := Lib.hid (show Up wo ((wo.alloc (.cells #[.string ⟨x.name.toArray⟩, .slice fo x.items.length fc] 72)).alloc (.cells #[.string ⟨x.name.toArray⟩, .slice fo' x.items.length fc'] 72)) from ((Up.refl wo).alloc _).alloc _)
          generalize hwa : (wo.alloc (.cells #[.string ⟨x.name.toArray⟩, .slice fo x.items.length fc] 72)).alloc (.cells #[.string ⟨x.name.toArray⟩, .slice fo' x.items.length fc'] 72) = wa at *
          have Hxa := Hxa0; have Hxb := Hxb0
          have HF1 := Lib.hid (Hf1.out.up stable_itm Hua.out); have HF2 := Lib.hid (Hf1'.out.up stable_itm Hua.out)
          clear hwa c0 c1 d0 d1 e0 Hf1 Hf1' Hxa0 Hxb0
          obtain ⟨wb, rfl⟩ : ∃ wb : World, wb = wa := ⟨_, rfl⟩
          have Huab := Lib.hid (Up.refl wb)
          go_loopw [133] (fun i wr => ∃ k2 : Nat, k2 ≤ x.items.length ∧ i = .int .i64 k2 ∧ Up wb wr) (fun i _ => x.items.length - (intOf i).toNat)
          case atStart => exact ⟨0, by omega, rfl, Up.refl _⟩
          case round =>
            obtain ⟨k2, hk2, rfl, hu2⟩ := hrel
            have Hu2 := Lib.hid hu2
            by_cases hlt2 : k2 < x.items.length
            · obtain ⟨b2, o2, cs, rfl, hb2, hl, hcs, hd⟩ := (HF1.out.up stable_itm (Huab.out.trans hu2)).at hlt2
              obtain ⟨hd, _⟩ := hd
              subst hd
              have c0 := hcs 0 _ rfl
              have c1 := hcs 1 _ rfl
              simp only [Nat.add_zero] at c0
              obtain ⟨b3, o3, cs', rfl, hb3, hl', hcs', hd'⟩ := (HF2.out.up stable_itm (Huab.out.trans hu2)).at hlt2
              obtain ⟨hd', _⟩ := hd'
              subst hd'
              have d0 := hcs' 0 _ rfl
              have d1 := hcs' 1 _ rfl
              simp only [Nat.add_zero] at d0
              have a1 := cell_of_row wr _ 1 _ _ _ ((Huab.out.trans hu2).blk Hxa.out)
              have a2 := cell_of_row wr _ 1 _ _ _ ((Huab.out.trans hu2).blk Hxb.out)
              simp only [List.getElem?_toArray, List.getElem?_cons_succ, List.getElem?_cons_zero] at a1 a2
              have k20 : (0 : Int) ≤ (k2 : Int) := by omega
              have k21 : (k2 : Int) < (x.items.length : Int) := by omega
              clear hcs hcs' hl hl' hu2
              generalize x.items[k2] = y at *
              clear hlt2 hk2
              go_wp2_with fail
              go_quiet (fail)
              go_wp2_with fail
              go_roundw
              case rel => exact ⟨k2 + 1, by omega, by go_num, Hu2.out.drewN _⟩
              case measure => simp [intOf]; omega
            · go_wp2_with fail
              go_roundw
              case rel => exact ⟨k + 1, by omega, by go_num, Hu3.out.trans (Hua.out.trans hu2)⟩
              case measure => simp [intOf]; omega
        · go_wp2_with fail
          go_ret
          exact ⟨rfl, Hu0.out.trans (hu.trans hu3)⟩
end Go.Proofs.YtplgegffapikoabDoor
