/-
  SyntaxAgain: the law's walk.
-/
import Derived.Test.YtplgegffapikoabDoorSynA
import Derived.Test.YtplgegffapikoabDoorSameFile
import Derived.Test.YtplgegffapikoabDoorNumberR
import Derived.Test.YtplgegffapikoabDoorClash
import Derived.Deep.RegionHeld3
set_option linter.unusedVariables false
namespace Go.Proofs.YtplgegffapikoabDoor
open Go.RowKit

set_option maxRecDepth 100000 in
set_option maxHeartbeats 6400000 in
theorem syntaxAgain_any (s : ByteArray) (w : World) (hev : EvR w) (hpw : Pow w) :
    Calls Tryd.prog 4 #[.string s] w fun e w' => e = .returned (.bool true) ∧ Up w w' := by
  have ha := alive_2 w hev hpw
  have hp1 := fun W (u : Up w W) => parse_s s W (hev.up u)
  have hp2 := fun t W (u : Up w W) => parse_s t W (hev.up u)
  have Ha := Lib.hid ha; have Hp1 := Lib.hid hp1; have Hp2 := Lib.hid hp2; have HPw := Lib.hid hpw
  clear ha hp1 hp2 hev hpw
  go_enter Tryd.func4, Tryd.ntmps4
  go_wp2_with fail
  refine Ha.out.mono ?_
  rintro e w1 ⟨rfl, hu1⟩
  have HU1 := Lib.hid hu1
  clear hu1 Ha
  go_wp2_with fail
  refine (Hp1.out _ HU1.out).mono ?_
  rintro e w2 ⟨v, rfl, hf, hu2⟩
  have Hf := Lib.hid (hf.keep Keep.lt)
  obtain ⟨vm, ve, rfl, hm, he⟩ := hf
  obtain ⟨mo, mc, rfl, _, _⟩ := hm.val
  obtain ⟨eo, ec, rfl, _, _⟩ := he.val
  have HU2 := Lib.hid (HU1.out.trans hu2)
  clear hm he hu2 Hp1 HU1
  have hraw := parse_raw s.data.toList
  obtain ⟨R, hR⟩ : ∃ R, parseS s.data.toList = R := ⟨_, rfl⟩
  have hag : clashP R.1 = false → (printP R.1).length ≤ 3000 → parseS (printP R.1) = (numbered R.1, 0, 0) ∧ printP (numbered R.1) = printP R.1 := fun h1 h2 => by
    rw [← hR] at h1 h2 ⊢; exact again h1 h2
  have her : R.2.1 ≠ 0 → R.1 = ⟨[], []⟩ ∧ R.2.2 ≤ s.size := fun h => by
    rw [← hR] at h ⊢; exact parse_err h
  rw [hR] at Hf hraw ⊢
  have Hraw := Lib.hid hraw; have Hag := Lib.hid hag; have Her := Lib.hid her
  clear hR hraw hag her
  obtain ⟨X, hX⟩ : ∃ X, w2.heap.size = X := ⟨_, rfl⟩
  obtain ⟨w3, hw3⟩ : ∃ w3, w3 = (w2.alloc (.cells #[.slice mo R.1.msgs.length mc, .slice eo R.1.enums.length ec] 25)).alloc (.cells #[.int .i64 R.2.1, .int .i64 (R.2.2 : Int)] 28) := ⟨_, rfl⟩
  have HB1 := Lib.hid (hw3 ▸ blk_old _ (blk_new w2 (.cells #[.slice mo R.1.msgs.length mc, .slice eo R.1.enums.length ec] 25) hX.symm))
  have HB2 := Lib.hid (hw3 ▸ blk_new (w2.alloc (.cells #[.slice mo R.1.msgs.length mc, .slice eo R.1.enums.length ec] 25)) (.cells #[.int .i64 R.2.1, .int .i64 (R.2.2 : Int)] 28) (g := X + 1) (by simp [← hX]))
  have HU3 := Lib.hid (hw3 ▸ (((Up.refl w2).alloc (.cells #[.slice mo R.1.msgs.length mc, .slice eo R.1.enums.length ec] 25)).alloc (.cells #[.int .i64 R.2.1, .int .i64 (R.2.2 : Int)] 28)) : Up w2 w3)
  go_upto_region 4 with (fail)
  rw [← hw3]
  have HX := Lib.hid hX
  clear hw3 hX
  have z0 : w3.cell? ⟨X + 1, 0, none⟩ = some (.int .i64 R.2.1) := cell_of_row w3 _ 0 _ _ _ HB2.out
  have z1 : w3.cell? ⟨X + 1, 1, none⟩ = some (.int .i64 (R.2.2 : Int)) := cell_of_row w3 _ 1 _ _ _ HB2.out
  have y1 : w3.cell? ⟨X, 0, none⟩ = some (.slice mo R.1.msgs.length mc) := cell_of_row w3 X 0 _ _ _ HB1.out
  have y2 : w3.cell? ⟨X, 1, none⟩ = some (.slice eo R.1.enums.length ec) := cell_of_row w3 X 1 _ _ _ HB1.out
  have HUw := Lib.hid (HU2.out.trans HU3.out)
  have HF3 := Lib.hid (Hf.out.up HU3.out)
  have HFA := Lib.hid (HF3.out.keep (Keep.weak (S' := All) (fun _ _ => trivial)))
  by_cases h0 : R.2.1 = 0
  case neg =>
    have j : (R.2.1 != 0) = true := by rw [bne_iff_ne]; exact h0
    obtain ⟨hr1, hr2⟩ := Her.out h0
    have Hr1 := Lib.hid hr1
    have j2 : (0 : Int) ≤ (R.2.2 : Int) := by omega
    have j3 : (R.2.2 : Int) ≤ (s.size : Int) := by omega
    have Z1 := Lib.hid z1
    clear h0 hr1 hr2
    go_wp2_with fail
    refine (samefile_r _ _ R.1 w3 HFA.out (by rw [Hr1.out]; exact filV_nil w3)).mono ?_
    rintro e w8 ⟨rfl, hu8⟩
    have z1 := hu8.cell_some Z1.out
    go_wp2_with fail
    go_ret
    exact ⟨rfl, HUw.out.trans hu8⟩
  case pos =>
    rw [h0] at z0
    have H0 := Lib.hid h0
    have hle := raw_le Hraw.out
    have hpr := print_s _ R.1 w3 HFA.out (by omega) (HPw.out.up HUw.out)
    have Hpr := Lib.hid hpr
    clear h0 hle hpr
    go_wp2_with fail
    refine Hpr.out.mono ?_
    rintro e w4 ⟨rfl, hu4⟩
    have HU4 := Lib.hid hu4
    obtain ⟨t, ht⟩ : ∃ t : ByteArray, t = ⟨(printP R.1).toArray⟩ := ⟨_, rfl⟩
    have htl : t.data.toList = printP R.1 := by rw [ht]
    rw [← ht]
    have Ht := Lib.hid ht; have Htl := Lib.hid htl
    clear hu4 ht htl Hpr z0 z1 y1 y2
    go_wp2_with fail
    refine (Hp2.out t _ (HUw.out.trans HU4.out)).mono ?_
    rintro e w5 ⟨v, rfl, hf, hu5⟩
    rw [Htl.out] at hf ⊢
    obtain ⟨T, hT⟩ : ∃ T, parseS (printP R.1) = T := ⟨_, rfl⟩
    rw [hT] at hf ⊢
    have HT := Lib.hid hT
    have Hg := Lib.hid hf
    obtain ⟨vm2, ve2, rfl, hm2, he2⟩ := hf
    obtain ⟨mo2, mc2, rfl, _, _⟩ := hm2.val
    obtain ⟨eo2, ec2, rfl, _, _⟩ := he2.val
    have HU5 := Lib.hid (HU4.out.trans hu5)
    clear hm2 he2 hT
    have z0 := cell_of_row w5 (X + 1) 0 _ _ _ (HU5.out.blk HB2.out)
    have z1 := cell_of_row w5 (X + 1) 1 _ _ _ (HU5.out.blk HB2.out)
    have z2 := lt_of_block (HU5.out.blk HB2.out)
    have z3 := frozen_of_row w5 (X + 1) 0 _ _ (HU5.out.blk HB2.out)
    have z4 := frozen_of_row w5 (X + 1) 1 _ _ (HU5.out.blk HB2.out)
    go_upto_region 8 with (fail)
    obtain ⟨w6, hw6⟩ : ∃ w6, w6 = (w5.setCell ⟨X + 1, 0, none⟩ (.int .i64 T.2.1)).setCell ⟨X + 1, 1, none⟩ (.int .i64 (T.2.2 : Int)) := ⟨_, rfl⟩
    obtain ⟨w7, hw7⟩ : ∃ w7, w7 = w6.alloc (.cells #[.slice mo2 T.1.msgs.length mc2, .slice eo2 T.1.enums.length ec2] 25) := ⟨_, rfl⟩
    have hsz : w6.heap.size = w5.heap.size := by rw [hw6]; simp
    obtain ⟨Z, hZ⟩ : ∃ Z, w5.heap.size = Z := ⟨_, rfl⟩
    rw [← hw6, ← hw7, hZ]
    have hU7 : Up w w7 := by
      have h1 : w.heap.size ≤ X := by have := HU2.out.size; have := HX.out; omega
      rw [hw7, hw6]
      exact (((HUw.out.trans HU5.out).setCell (p := ⟨X + 1, 0, none⟩) (by simp only; omega) _).setCell (p := ⟨X + 1, 1, none⟩) (by simp only; omega) _).alloc _
    have hfb6 := heap_setCell_same (w5.setCell ⟨X + 1, 0, none⟩ (.int .i64 T.2.1)) (X + 1) 1 _ _ (.int .i64 (T.2.2 : Int)) (heap_setCell_same w5 (X + 1) 0 _ _ (.int .i64 T.2.1) (HU5.out.blk HB2.out))
    rw [← hw6] at hfb6
    have hfb7 : w7.heap[X + 1]? = _ := hw7 ▸ blk_old _ hfb6
    have y0 : w7.cell? ⟨X + 1, 0, none⟩ = some (.int .i64 T.2.1) := by rw [cell_of_row w7 (X + 1) 0 _ _ _ hfb7]; rfl
    have hk6 : ∀ S : Nat → Prop, ¬ S (X + 1) → Keep S w5 S w6 := fun S hS => hw6 ▸ (Keep.setCell (p := ⟨X + 1, 0, none⟩) hS _).trans (Keep.setCell (p := ⟨X + 1, 1, none⟩) hS _)
    have hF7 : FilV All w7 _ R.1 := (((HF3.out.up HU5.out).keep (hk6 _ (fun h => by unfold Lt at h; have := HX.out; omega))).up (hw7 ▸ (Up.refl w6).alloc _)).keep (Keep.weak (fun _ _ => trivial))
    have hG7 : FilV All w7 _ T.1 := ((Hg.out.keep (hk6 _ (fun h => by have h1 := lt_of_block (HU4.out.blk HB2.out); omega))).up (hw7 ▸ (Up.refl w6).alloc _)).keep (Keep.weak (fun _ _ => trivial))
    have hX7 : w7.heap[X]? = some (.cells #[.slice mo R.1.msgs.length mc, .slice eo R.1.enums.length ec] 25 (0, 0)) := by
      rw [hw7]
      refine blk_old _ ?_
      rw [hw6]
      exact ((Below.heap_setCell _ _ _ X (by simp only; omega)).trans (Below.heap_setCell _ _ _ X (by simp only; omega))).trans (HU5.out.blk HB1.out)
    have y1 : w7.cell? ⟨X, 0, none⟩ = some (.slice mo R.1.msgs.length mc) := cell_of_row w7 X 0 _ _ _ hX7
    have y2 : w7.cell? ⟨X, 1, none⟩ = some (.slice eo R.1.enums.length ec) := cell_of_row w7 X 1 _ _ _ hX7
    have hZ7 : w7.heap[Z]? = _ := hw7 ▸ blk_new w6 _ (by rw [hsz, hZ])
    have y3 : w7.cell? ⟨Z, 0, none⟩ = some (.slice mo2 T.1.msgs.length mc2) := cell_of_row w7 Z 0 _ _ _ hZ7
    have y4 : w7.cell? ⟨Z, 1, none⟩ = some (.slice eo2 T.1.enums.length ec2) := cell_of_row w7 Z 1 _ _ _ hZ7
    have HF7 := Lib.hid hF7; have HG7 := Lib.hid hG7; have HU7 := Lib.hid hU7
    have hcl := fun W (u : Up w7 W) => clash_s _ R.1 W (HF7.out.up u)
    have Hcl := Lib.hid hcl
    clear hF7 hG7 hU7 hw6 hw7 hsz hfb6 hfb7 hk6 hX7 hZ7 z0 z1 z2 z3 z4 hZ hcl
    by_cases h1 : T.2.1 = 0
    case neg =>
      have j : (T.2.1 != 0) = true := by rw [bne_iff_ne]; exact h1
      by_cases h4 : T.2.1 = 4
      case pos =>
        have j4 : (T.2.1 == 4) = true := by rw [beq_iff_eq]; exact h4
        clear h1 h4
        go_wp2_with fail
        go_ret
        exact ⟨rfl, HU7.out⟩
      case neg =>
        have j4 : (T.2.1 == 4) = false := by rw [beq_eq_false_iff_ne]; exact h4
        have hct : clashP R.1 = true := by
          cases hc : clashP R.1
          · exfalso
            rcases Nat.lt_or_ge 3000 (printP R.1).length with hb | hb
            · exact h4 (by rw [← HT.out, parse_much hb])
            · exact h1 (by rw [← HT.out, (Hag.out hc hb).1])
          · rfl
        have Hct := Lib.hid hct
        clear h1 h4 hct
        go_wp2_with fail
        refine (Hcl.out _ (Up.refl _)).mono ?_
        rintro e w8 ⟨rfl, hu8⟩
        rw [Hct.out]
        go_wp2_with fail
        go_ret
        exact ⟨rfl, HU7.out.trans hu8⟩
    case pos =>
      rw [h1] at y0
      have H1 := Lib.hid h1
      clear h1
      go_upto_region 10 with (fail)
      cases hc : clashP R.1
      case true =>
        have Hct := Lib.hid hc
        clear hc
        refine wp_region_held_drew (S := fun w' => w'.cell? ⟨X, 0, none⟩ = some (.slice mo R.1.msgs.length mc) ∧ w'.cell? ⟨X, 1, none⟩ = some (.slice eo R.1.enums.length ec)) (by kernel_rfl) (show _ ∧ _ from ⟨(Up.refl _).drew.cell_some y1, (Up.refl _).drew.cell_some y2⟩) (fun hHeld => ?_)
        refine wpAnyH_take (i := 0) (v := ?_) (by simp only [List.getElem?_toArray, List.getElem?_cons_succ, List.getElem?_cons_zero] <;> rfl) (by kernel_rfl) (by kernel_rfl) (by kernel_rfl) (fun _ _ _ h => by exact h) (Or.inl ⟨by rfl, ?_⟩) (by assumption) ?_
        rotate_left
        · (intro w hSw; (try dsimp only at hSw); go_simp)
          try with_reducible rfl
        rotate_left
        try simp only [Act.put, List.setIfInBounds_toArray, List.set_cons_zero, List.set_cons_succ]
        refine wpAnyH_ready (rs := [1]) (by kernel_rfl) (by simp) (AllReadyH.cons (by simp only [List.getElem?_toArray, List.getElem?_cons_succ, List.getElem?_cons_zero] <;> rfl) (fun K' hK => ?_) AllReadyH.nil)
        rw [if_pos (by rfl)]
        go_simp
        refine (Hcl.out _ ((Up.refl _).drew)).mono ?_
        rintro e w8 ⟨rfl, hu8⟩
        rw [Hct.out]
        have hx2 := (Up.refl w7).drew.trans hu8
        dsimp only
        refine hK.out _ _ (show _ ∧ _ from ⟨hx2.cell_some y1, hx2.cell_some y2⟩) (fun hHeld => ?_)
        clear hK
        try simp only [Act.put, List.setIfInBounds_toArray, List.set_cons_zero, List.set_cons_succ]
        refine wpAnyH_take (i := 2) (v := ?_) (by simp only [List.getElem?_toArray, List.getElem?_cons_succ, List.getElem?_cons_zero] <;> rfl) (by kernel_rfl) (by kernel_rfl) (by kernel_rfl) (fun _ _ _ h => by exact h) (Or.inl ⟨by rfl, ?_⟩) (by assumption) ?_
        rotate_left
        · (intro w hSw; (try dsimp only at hSw); go_simp)
          try with_reducible rfl
        rotate_left
        try simp only [Act.put, List.setIfInBounds_toArray, List.set_cons_zero, List.set_cons_succ]
        refine wpAnyH_take (i := 3) (v := undef) (by simp only [List.getElem?_toArray, List.getElem?_cons_succ, List.getElem?_cons_zero] <;> rfl) (by kernel_rfl) (by kernel_rfl) (by kernel_rfl) (fun _ _ _ h => by exact h) (Or.inr ⟨by rfl, rfl⟩) (by assumption) ?_
        try simp only [Act.put, List.setIfInBounds_toArray, List.set_cons_zero, List.set_cons_succ]
        refine wpAnyH_take (i := 5) (v := undef) (by simp only [List.getElem?_toArray, List.getElem?_cons_succ, List.getElem?_cons_zero] <;> rfl) (by kernel_rfl) (by kernel_rfl) (by kernel_rfl) (fun _ _ _ h => by exact h) (Or.inr ⟨by rfl, rfl⟩) (by assumption) ?_
        try simp only [Act.put, List.setIfInBounds_toArray, List.set_cons_zero, List.set_cons_succ]
        refine wpAnyH_take (i := 4) (v := undef) (by simp only [List.getElem?_toArray, List.getElem?_cons_succ, List.getElem?_cons_zero] <;> rfl) (by kernel_rfl) (by kernel_rfl) (by kernel_rfl) (fun _ _ _ h => by exact h) (Or.inr ⟨by rfl, rfl⟩) (by assumption) ?_
        try simp only [Act.put, List.setIfInBounds_toArray, List.set_cons_zero, List.set_cons_succ]
        refine wpAnyH_take (i := 6) (v := undef) (by simp only [List.getElem?_toArray, List.getElem?_cons_succ, List.getElem?_cons_zero] <;> rfl) (by kernel_rfl) (by kernel_rfl) (by kernel_rfl) (fun _ _ _ h => by exact h) (Or.inr ⟨by rfl, rfl⟩) (by assumption) ?_
        try simp only [Act.put, List.setIfInBounds_toArray, List.set_cons_zero, List.set_cons_succ]
        refine wpAnyH_take (i := 7) (v := undef) (by simp only [List.getElem?_toArray, List.getElem?_cons_succ, List.getElem?_cons_zero] <;> rfl) (by kernel_rfl) (by kernel_rfl) (by kernel_rfl) (fun _ _ _ h => by exact h) (Or.inr ⟨by rfl, rfl⟩) (by assumption) ?_
        try simp only [Act.put, List.setIfInBounds_toArray, List.set_cons_zero, List.set_cons_succ]
        refine wpAnyH_take (i := 8) (v := undef) (by simp only [List.getElem?_toArray, List.getElem?_cons_succ, List.getElem?_cons_zero] <;> rfl) (by kernel_rfl) (by kernel_rfl) (by kernel_rfl) (fun _ _ _ h => by exact h) (Or.inr ⟨by rfl, rfl⟩) (by assumption) ?_
        try simp only [Act.put, List.setIfInBounds_toArray, List.set_cons_zero, List.set_cons_succ]
        refine wpAnyH_take (i := 10) (v := undef) (by simp only [List.getElem?_toArray, List.getElem?_cons_succ, List.getElem?_cons_zero] <;> rfl) (by kernel_rfl) (by kernel_rfl) (by kernel_rfl) (fun _ _ _ h => by exact h) (Or.inr ⟨by rfl, rfl⟩) (by assumption) ?_
        try simp only [Act.put, List.setIfInBounds_toArray, List.set_cons_zero, List.set_cons_succ]
        refine wpAnyH_take (i := 9) (v := undef) (by simp only [List.getElem?_toArray, List.getElem?_cons_succ, List.getElem?_cons_zero] <;> rfl) (by kernel_rfl) (by kernel_rfl) (by kernel_rfl) (fun _ _ _ h => by exact h) (Or.inr ⟨by rfl, rfl⟩) (by assumption) ?_
        try simp only [Act.put, List.setIfInBounds_toArray, List.set_cons_zero, List.set_cons_succ]
        refine wpAnyH_take (i := 11) (v := undef) (by simp only [List.getElem?_toArray, List.getElem?_cons_succ, List.getElem?_cons_zero] <;> rfl) (by kernel_rfl) (by kernel_rfl) (by kernel_rfl) (fun _ _ _ h => by exact h) (Or.inr ⟨by rfl, rfl⟩) (by assumption) ?_
        try simp only [Act.put, List.setIfInBounds_toArray, List.set_cons_zero, List.set_cons_succ]
        refine wpAnyH_take (i := 12) (v := undef) (by simp only [List.getElem?_toArray, List.getElem?_cons_succ, List.getElem?_cons_zero] <;> rfl) (by kernel_rfl) (by kernel_rfl) (by kernel_rfl) (fun _ _ _ h => by exact h) (Or.inr ⟨by rfl, rfl⟩) (by assumption) ?_
        try simp only [Act.put, List.setIfInBounds_toArray, List.set_cons_zero, List.set_cons_succ]
        refine wpAnyH_take (i := 13) (v := ?_) (by simp only [List.getElem?_toArray, List.getElem?_cons_succ, List.getElem?_cons_zero] <;> rfl) (by kernel_rfl) (by kernel_rfl) (by kernel_rfl) (fun _ _ _ h => by exact h) (Or.inl ⟨by rfl, ?_⟩) (by assumption) ?_
        rotate_left
        · (intro w hSw; (try dsimp only at hSw); go_simp)
          try with_reducible rfl
        rotate_left
        try simp only [Act.put, List.setIfInBounds_toArray, List.set_cons_zero, List.set_cons_succ]
        refine wpAnyH_take (i := 14) (v := ?_) (by simp only [List.getElem?_toArray, List.getElem?_cons_succ, List.getElem?_cons_zero] <;> rfl) (by kernel_rfl) (by kernel_rfl) (by kernel_rfl) (fun _ _ _ h => by exact h) (Or.inl ⟨by rfl, ?_⟩) (by assumption) ?_
        rotate_left
        · (intro w hSw; (try dsimp only at hSw); go_simp)
          try with_reducible rfl
        rotate_left
        try simp only [Act.put, List.setIfInBounds_toArray, List.set_cons_zero, List.set_cons_succ]
        refine wpAnyH_done (by kernel_rfl) ?_ _
        go_wp2_with fail
        go_ret
        exact ⟨rfl, HU7.out.trans hx2⟩
      case false =>
        have hlen : (printP R.1).length ≤ 3000 := by
          rcases Nat.lt_or_ge 3000 (printP R.1).length with hb | hb
          · have := H1.out
            rw [← HT.out, parse_much hb] at this
            cases this
          · exact hb
        obtain ⟨ha1, ha2⟩ := Hag.out hc hlen
        have hTn : T.1 = numbered R.1 := by rw [← HT.out, ha1]
        rw [hTn] at y3 y4
        have hg7 := HG7.out
        rw [hTn] at hg7
        have HGn := Lib.hid hg7
        have Hcf := Lib.hid hc
        have hpn := fun W (u : Up w7 W) => print_s _ (numbered R.1) W (HGn.out.up u) (by rw [ha2]; omega) (HPw.out.up (HU7.out.trans u))
        rw [ha2, ← Ht.out] at hpn
        have hnn := fun W (u : Up w7 W) => numbered_r _ R.1 W (HF7.out.up u) (by have := Hraw.out.len; omega) (fun m hm => by have := (Hraw.out.msgs m hm).flen; omega)
        have Hpn := Lib.hid hpn; have Hnn := Lib.hid hnn
        clear hc hlen ha1 ha2 hTn hg7 hpn hnn
        have Y1 := Lib.hid y1; have Y2 := Lib.hid y2; have Y3 := Lib.hid y3; have Y4 := Lib.hid y4
        have jt : (t.toList == t.toList) = true := by simp
        go_region_with (first
            | (go_at_call 19; refine (Hcl.out _ ((Up.refl _).drew)).mono ?_; rintro e w8 ⟨rfl, hu8⟩; rw [Hcf.out]; have hx2 := (Up.refl w7).drew.trans hu8; clear hu8 y1 y2 y3 y4; have y1 := hx2.cell_some Y1.out; have y2 := hx2.cell_some Y2.out; have y3 := hx2.cell_some Y3.out; have y4 := hx2.cell_some Y4.out)
            | (go_at_call 12; refine (Hpn.out _ hx2).mono ?_; rintro e w9 ⟨rfl, hu9⟩; have hx3 := hx2.trans hu9; clear hu9 y1 y2 y3 y4; have y1 := hx3.cell_some Y1.out; have y2 := hx3.cell_some Y2.out; have y3 := hx3.cell_some Y3.out; have y4 := hx3.cell_some Y4.out)
            | (go_at_call 20; refine (Hnn.out _ hx3).mono ?_; rintro e wa ⟨va, rfl, hfa, hua⟩; have Hfa := Lib.hid hfa; have hx4 := hx3.trans hua; clear hua hfa y1 y2 y3 y4; have y1 := hx4.cell_some Y1.out; have y2 := hx4.cell_some Y2.out; have y3 := hx4.cell_some Y3.out; have y4 := hx4.cell_some Y4.out)
            | (go_at_call 11; refine (samefile_r _ _ (numbered R.1) _ Hfa.out (HGn.out.up hx4)).mono ?_; rintro e wb ⟨rfl, hub⟩; have hx5 := hx4.trans hub; clear hub))
        --S trace_state
        all_goals
          go_wp2_with fail
          go_ret
          exact ⟨rfl, HU7.out.trans hx5⟩
end Go.Proofs.YtplgegffapikoabDoor
