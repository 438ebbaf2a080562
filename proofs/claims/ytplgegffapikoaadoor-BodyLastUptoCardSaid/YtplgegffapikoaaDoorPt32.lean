/-
  body.Wrong.
-/
import Derived.Test.YtplgegffapikoaaDoorPt27
import Derived.Test.YtplgegffapikoaaDoorPt31
set_option linter.unusedVariables false
namespace Go.Proofs.YtplgegffapikoaaDoor
open Go.RowKit
set_option maxRecDepth 100000 in
set_option maxHeartbeats 3200000 in
theorem wrong_bod (d : Nat) (v vv vu : Value) (f : Fil) (msg : Int) (x : Bod) (w : World) (hf : FilV All w v f) (hb : DBodF d All w x [vv, vu]) (hT : Tabs w) :
    Calls Tryd.prog 8 #[v, .int .i64 msg, .agg #[vv, vu]] w fun e w' => e = .returned (.int .i64 (wrongA f msg x)) ∧ Up w w' := by
  obtain ⟨vm, ve, rfl, hm, he⟩ := id hf
  obtain ⟨ma, mc, rfl, _, _⟩ := hm.val
  obtain ⟨ea, ec, rfl, _, _⟩ := he.val
  obtain ⟨a1, n1, c1, a2, n2, c2, hbt⟩ := bod_two hb
  simp only [List.cons.injEq, and_true] at hbt
  obtain ⟨rfl, rfl⟩ := hbt
  have Hf := Lib.hid hf; have Hb := Lib.hid hb; have HT := Lib.hid hT
  clear hf hb hT hm he
  obtain ⟨ANS, hANS⟩ : ∃ ANS, wrongA f msg x = ANS := ⟨_, rfl⟩
  rw [hANS]
  unfold wrongA at hANS
  have HA := Lib.hid hANS
  clear hANS
  go_enter Tryd.func8, Tryd.ntmps8
  go_wp2_with fail
  have hb0 : ((w.alloc (.cells #[.slice ma f.msgs.length mc, .slice ea f.enums.length ec] 25)).alloc (.cells #[.slice a1 n1 c1, .slice a2 n2 c2] 29)).heap[w.heap.size]? = some (.cells #[.slice ma f.msgs.length mc, .slice ea f.enums.length ec] 25 (0, 0)) := blk_old _ (blk_new w _ rfl)
  have hb1 : ((w.alloc (.cells #[.slice ma f.msgs.length mc, .slice ea f.enums.length ec] 25)).alloc (.cells #[.slice a1 n1 c1, .slice a2 n2 c2] 29)).heap[w.heap.size + 1]? = some (.cells #[.slice a1 n1 c1, .slice a2 n2 c2] 29 (0, 0)) := blk_new (w.alloc _) _ (by simp)
  have hu0 : Up w ((w.alloc (.cells #[.slice ma f.msgs.length mc, .slice ea f.enums.length ec] 25)).alloc (.cells #[.slice a1 n1 c1, .slice a2 n2 c2] 29)) := ((Up.refl w).alloc _).alloc _
  generalize hw1 : (w.alloc (.cells #[.slice ma f.msgs.length mc, .slice ea f.enums.length ec] 25)).alloc (.cells #[.slice a1 n1 c1, .slice a2 n2 c2] 29) = w1 at *
  clear hw1
  refine (wrong_l _ f w1 (Hf.out.up hu0)).mono ?_
  rintro e w2 ⟨rfl, hu2⟩
  have Hu02 := Lib.hid (hu0.trans hu2)
  have Hb0 := Lib.hid (hu2.blk hb0); have Hb1 := Lib.hid (hu2.blk hb1)
  clear hb0 hb1 hu0 hu2
  have hz := lt_of_block Hb1.out
  have hANS := HA.out
  clear HA
  have r0 : w.heap.size < w2.heap.size := by omega
  have r1 : w.heap.size + 1 < w2.heap.size := by omega
  have f0 : w2.cell? ⟨w.heap.size, 0, none⟩ = some (.slice ma f.msgs.length mc) := cell_of_row w2 _ 0 _ _ _ Hb0.out
  have f1 : w2.cell? ⟨w.heap.size, 1, none⟩ = some (.slice ea f.enums.length ec) := cell_of_row w2 _ 1 _ _ _ Hb0.out
  have g0 : w2.cell? ⟨w.heap.size + 1, 0, none⟩ = some (.slice a1 n1 c1) := cell_of_row w2 _ 0 _ _ _ Hb1.out
  have g1 : w2.cell? ⟨w.heap.size + 1, 1, none⟩ = some (.slice a2 n2 c2) := cell_of_row w2 _ 1 _ _ _ Hb1.out
  by_cases hw : (wrongN f).1 = 0
  · have Hw := Lib.hid hw
    rw [if_neg (by simpa using hw)] at hANS
    rw [hw]
    by_cases hm : msg < 0 ∨ (f.msgs.length : Int) ≤ msg
    · rw [if_pos hm] at hANS
      rcases (show msg < 0 ∨ (¬ msg < 0 ∧ (f.msgs.length : Int) ≤ msg) by omega) with h | ⟨h, h2⟩
      · clear hm g0 g1 f1
        generalize (wrongN f).2 = at2 at *
        go_wp2_with fail
        go_ret
        exact ⟨ret_int hANS, Hu02.out.alloc _⟩
      · clear hm g0 g1 f1
        generalize (wrongN f).2 = at2 at *
        go_wp2_with fail
        go_ret
        exact ⟨ret_int hANS, Hu02.out.alloc _⟩
    · rw [if_neg hm] at hANS
      have h1 : ¬ msg < 0 := by omega
      have h2 : ¬ (f.msgs.length : Int) ≤ msg := by omega
      have Hm := Lib.hid hm
      have Hans := Lib.hid hANS
      clear hm hw hANS
      generalize (wrongN f).2 = at2 at *
      go_wp2_with fail
      have hbk : ((w2.alloc (.cells #[.int .i64 0, .int .i64 (at2 : Int)] 63)).alloc (.cells #[.pointer (some ⟨w.heap.size, 0, none⟩)] 68)).heap[w2.heap.size + 1]? = some (.cells #[.pointer (some ⟨w.heap.size, 0, none⟩)] 68 (0, 0)) := blk_new (w2.alloc _) _ (by simp)
      have hu3 : Up w2 ((w2.alloc (.cells #[.int .i64 0, .int .i64 (at2 : Int)] 63)).alloc (.cells #[.pointer (some ⟨w.heap.size, 0, none⟩)] 68)) := ((Up.refl w2).alloc _).alloc _
      generalize (w2.alloc (.cells #[.int .i64 0, .int .i64 (at2 : Int)] 63)).alloc (.cells #[.pointer (some ⟨w.heap.size, 0, none⟩)] 68) = w3 at *
      have hu03 := Hu02.out.trans hu3
      have hbc := body_c f Hw.out 12 (by omega) d msg x (w2.heap.size + 1) w.heap.size (w.heap.size + 1) 0 w3 (by have := Hm.out; omega) (by have := Hm.out; omega)
        ⟨cell_of_row w3 _ 0 _ _ _ hbk, _, _, hu3.cell_some f0, hu3.cell_some f1, Hf.out.up hu03⟩ ⟨_, _, hu3.cell_some g0, hu3.cell_some g1, stable_bod d _ _ _ _ _ _ (Keep.upS hu03) Hb.out⟩ (HT.out.up hu03)
      refine (show Calls Tryd.prog 25 #[.pointer (some ⟨w2.heap.size + 1, 0, none⟩), .int .i64 msg, .pointer (some ⟨w.heap.size + 1, 0, none⟩), .int .i64 1] w3 _ from hbc).mono ?_
      rintro e w4 ⟨rfl, hu4⟩
      rw [Hans.out]
      go_wp2_with fail
      go_ret
      exact ⟨rfl, hu03.trans hu4⟩
  · rw [if_pos hw] at hANS
    generalize (wrongN f).1 = e1 at *
    generalize (wrongN f).2 = at2 at *
    clear f0 f1 g0 g1
    go_wp2_with fail
    go_ret
    exact ⟨ret_int (by first | rfl | exact hANS), Hu02.out.alloc _⟩
end Go.Proofs.YtplgegffapikoaaDoor
