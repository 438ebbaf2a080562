/-
  The law TopDeep.
-/
import Derived.Test.YtbceapeoknngnaaGreatDoorDp49
import Derived.Test.YtbceapeoknngnaaGreatDoorDp06
set_option linter.unusedVariables false
namespace Go.Proofs.YtbceapeoknngnaaGreatDoor
open Go.RowKit
theorem box2' {w : World} {G : Nat} {p q x y : Value} {t : TypeId} (h : w.heap[G]? = some (.cells #[p, q] t (0, 0))) : ((w.setCell ⟨G, 0, none⟩ x).setCell ⟨G, 1, none⟩ y).heap[G]? = some (.cells #[x, y] t (0, 0)) := heap_setCell_same _ G 1 _ _ y (heap_setCell_same w G 0 _ _ x h)
set_option maxRecDepth 100000 in
set_option maxHeartbeats 6400000 in
theorem deep_any (n : Int) (w : World) (hev : EvR w) (hT : Tabs w) (hn : -9223372036854775808 ≤ n ∧ n ≤ 9223372036854775807) :
    Calls Tryz.prog 10 #[.int .i64 n] w fun e w' => e = .returned (.bool true) ∧ Up w w' := by
  have Hal := Lib.hid (alive_top w hev hT)
  have Hfi := Lib.hid (fun W (u : Up w W) => file_user W (hev.up u)); have HT := Lib.hid hT
  clear hev hT
  go_enter Tryz.func10, Tryz.ntmps10
  go_upto_region 3 with (go_at_call 12; go_must (refine Hal.out.mono ?_; rintro e w1 ⟨rfl, hu1⟩))
  have U1 := Lib.hid hu1
  clear hu1 Hal
  go_upto_region 4 with (go_at_call 16; go_must (refine (Hfi.out _ U1.out).mono ?_; rintro e w2 ⟨mo, mc, eo, ec, rfl, hf, hu⟩))
  have hb1 := blk_new w2 (.cells #[.slice mo 1 mc, .slice eo 1 ec] 25) (g := w2.heap.size) rfl
  have hu2 := (Up.refl w2).alloc (.cells #[.slice mo 1 mc, .slice eo 1 ec] 25)
  obtain ⟨B1, hB1⟩ : ∃ B, w2.heap.size = B := ⟨_, rfl⟩
  rw [hB1] at hb1 ⊢
  generalize hw3 : w2.alloc (.cells #[.slice mo 1 mc, .slice eo 1 ec] 25) = w3 at *
  have U3 := Lib.hid ((U1.out.trans hu).trans hu2); have Hf3 := Lib.hid (hf.up hu2); have Hb1 := Lib.hid hb1
  clear hw3 hu hf hu2 hb1 Hfi hB1
  by_cases h1 : n < 1
  · go_wp2_with fail
    go_ret
    exact ⟨rfl, U3.out⟩
  by_cases h20 : 20 < n
  · go_wp2_with fail
    go_ret
    exact ⟨rfl, U3.out⟩
  obtain ⟨N, rfl⟩ : ∃ N : Nat, n = (N : Int) + 1 := ⟨(n - 1).toNat, by omega⟩
  have hN : N < 20 := by omega
  have hsub : RowKit.wrap64 ((N : Int) + 1 - 1) = (N : Int) := by unfold RowKit.wrap64; omega
  have HN := Lib.hid hN; have Hsub := Lib.hid hsub
  clear hN hsub hn
  go_upto_region 7 with (fail)
  have hbX := blk_new w3 (.cells #[.slice none 0 0, .slice none 0 0] 29) (g := w3.heap.size) rfl
  have hu4 := (Up.refl w3).alloc (.cells #[.slice none 0 0, .slice none 0 0] 29)
  obtain ⟨BX, hBX⟩ : ∃ B, w3.heap.size = B := ⟨_, rfl⟩
  rw [hBX] at hbX ⊢
  generalize w3.alloc (.cells #[.slice none 0 0, .slice none 0 0] 29) = w4 at *
  have HbX := Lib.hid hbX; have U4 := Lib.hid hu4; have HBX := Lib.hid hBX
  clear hbX hu4 hBX
  have hsub := Hsub.out
  go_wp2_with fail
  clear hsub
  go_loopw [6, 29] (fun b i wr => ∃ (k : Nat) (vv vu : Value), k ≤ N ∧ i = .int .i64 k ∧ RdB (From (BX + 1)) wr b (deepB k) ∧ DBodF (k + 1) (From (BX + 1)) wr (deepX k) [vv, vu] ∧ wr.heap[BX]? = some (.cells #[vv, vu] 29 (0, 0)) ∧ Up w3 wr) (fun _ i _ => N - (intOf i).toNat)
  case atStart => exact ⟨0, _, _, by omega, rfl, rdB_nil _ _, ⟨_, _, rfl, rdS_nil _ _ _ _, rdS_nil _ _ _ _, by simp [deepX, bod0, BodSz, Bod.values, Bod.unknown]⟩, HbX.out, U4.out⟩
  case round =>
    obtain ⟨k, vv, vu, hk, rfl, hrb, hd, hbX, hu⟩ := hrel
    obtain ⟨pa, pc, rfl, _, _⟩ := hrb.val
    obtain ⟨x1, xn, xc, x2, xm, xd, hbt⟩ := bod_two hd
    simp only [List.cons.injEq, and_true] at hbt
    obtain ⟨rfl, rfl⟩ := hbt
    have Hrb := Lib.hid hrb; have Hd := Lib.hid hd; have HbXr := Lib.hid hbX; have Hu := Lib.hid hu
    clear hrb hd hu
    by_cases hlt : k < N
    · have x0 : wr.cell? ⟨BX, 0, none⟩ = some (.slice x1 xn xc) := cell_of_row _ _ 0 _ _ _ hbX
      have x1' : wr.cell? ⟨BX, 1, none⟩ = some (.slice x2 xm xd) := cell_of_row _ _ 1 _ _ _ hbX
      have xf : ∀ o, wr.frozen? ⟨BX, o, none⟩ = false := fun o => frozen_of_row _ _ o _ _ hbX
      have xz : BX < wr.heap.size := lt_of_block hbX
      have hlt' : (k : Int) < (N : Int) := by omega
      have Hlt := Lib.hid hlt
      clear hbX hlt hk
      go_upto_region 11 with (fail)
      have hsz : ((wr.setCell ⟨BX, 0, none⟩ (.slice (some ⟨wr.heap.size + 1, 0, none⟩) 1 1)).setCell ⟨BX, 1, none⟩ (.slice none 0 0)).heap.size = wr.heap.size := by simp
      have hbX' := blk_old (.cells #[.int .i64 4, .slice none 0 0, .slice none 0 0, .slice (some ⟨wr.heap.size, 0, none⟩) 1 1] 53) (blk_old (.cells #[.slice x1 xn xc, .slice x2 xm xd] 29) (box2' (x := .slice (some ⟨wr.heap.size + 1, 0, none⟩) 1 1) (y := .slice none 0 0) HbXr.out))
      have hD1 := blk_old (.cells #[.int .i64 4, .slice none 0 0, .slice none 0 0, .slice (some ⟨wr.heap.size, 0, none⟩) 1 1] 53) (blk_new ((wr.setCell ⟨BX, 0, none⟩ (.slice (some ⟨wr.heap.size + 1, 0, none⟩) 1 1)).setCell ⟨BX, 1, none⟩ (.slice none 0 0)) (.cells #[.slice x1 xn xc, .slice x2 xm xd] 29) (g := wr.heap.size) hsz.symm)
      have hD2 := blk_new (((wr.setCell ⟨BX, 0, none⟩ (.slice (some ⟨wr.heap.size + 1, 0, none⟩) 1 1)).setCell ⟨BX, 1, none⟩ (.slice none 0 0)).alloc (.cells #[.slice x1 xn xc, .slice x2 xm xd] 29)) (.cells #[.int .i64 4, .slice none 0 0, .slice none 0 0, .slice (some ⟨wr.heap.size, 0, none⟩) 1 1] 53) (g := wr.heap.size + 1) (by simp)
      have hkeep : Keep (From (BX + 1)) wr (From (BX + 1)) ((((wr.setCell ⟨BX, 0, none⟩ (.slice (some ⟨wr.heap.size + 1, 0, none⟩) 1 1)).setCell ⟨BX, 1, none⟩ (.slice none 0 0)).alloc (.cells #[.slice x1 xn xc, .slice x2 xm xd] 29)).alloc (.cells #[.int .i64 4, .slice none 0 0, .slice none 0 0, .slice (some ⟨wr.heap.size, 0, none⟩) 1 1] 53)) :=
        (((Keep.setCell (p := ⟨BX, 0, none⟩) (show ¬ BX + 1 ≤ BX by omega) _).trans (Keep.setCell (p := ⟨BX, 1, none⟩) (show ¬ BX + 1 ≤ BX by omega) _)).trans (Keep.alloc _)).trans (Keep.alloc _)
      have hu5 : Up w3 ((((wr.setCell ⟨BX, 0, none⟩ (.slice (some ⟨wr.heap.size + 1, 0, none⟩) 1 1)).setCell ⟨BX, 1, none⟩ (.slice none 0 0)).alloc (.cells #[.slice x1 xn xc, .slice x2 xm xd] 29)).alloc (.cells #[.int .i64 4, .slice none 0 0, .slice none 0 0, .slice (some ⟨wr.heap.size, 0, none⟩) 1 1] 53)) := ((Up.setCell (Up.setCell Hu.out (p := ⟨BX, 0, none⟩) (by have := HBX.out; show _ ≤ BX; omega) _) (p := ⟨BX, 1, none⟩) (by have := HBX.out; show _ ≤ BX; omega) _).alloc _).alloc _
      have hd' := stable_bod (k + 1) _ _ _ _ _ _ hkeep Hd.out
      have hrb' := Hrb.out.keep stable_u8 hkeep
      have hs1 : wr.heap.size < ((((wr.setCell ⟨BX, 0, none⟩ (.slice (some ⟨wr.heap.size + 1, 0, none⟩) 1 1)).setCell ⟨BX, 1, none⟩ (.slice none 0 0)).alloc (.cells #[.slice x1 xn xc, .slice x2 xm xd] 29)).alloc (.cells #[.int .i64 4, .slice none 0 0, .slice none 0 0, .slice (some ⟨wr.heap.size, 0, none⟩) 1 1] 53)).heap.size := by simp; omega
      clear hsz hkeep x0 x1' xf
      generalize ((((wr.setCell ⟨BX, 0, none⟩ (.slice (some ⟨wr.heap.size + 1, 0, none⟩) 1 1)).setCell ⟨BX, 1, none⟩ (.slice none 0 0)).alloc (.cells #[.slice x1 xn xc, .slice x2 xm xd] 29)).alloc (.cells #[.int .i64 4, .slice none 0 0, .slice none 0 0, .slice (some ⟨wr.heap.size, 0, none⟩) 1 1] 53)) = wn at *
      have hdn : DBodF (k + 2) (From (BX + 1)) wn (deepX (k + 1)) [.slice (some ⟨wr.heap.size + 1, 0, none⟩) 1 1, .slice none 0 0] := by
        refine ⟨_, _, rfl, rds_block (l := [((4 : Int), ([] : List Nat), ([] : List (List UInt8)), [deepX k])]) hD2 (show BX + 1 ≤ wr.heap.size + 1 by omega) (show (1 : Nat) ≤ maxLen by decide) (fun i hi => ?_), rdS_nil _ _ _ _, by unfold BodSz; show 1 * 80 ≤ 140737488355328 ∧ 0 * 48 ≤ 140737488355328; omega⟩
        have hi2 : i < 1 := hi
        obtain rfl : i = 0 := by omega
        refine ⟨rfl, _, _, _, rfl, (show okI 4 by unfold okI; decide), rdS_nil _ _ _ _, rdS_nil _ _ _ _, rds_block (l := [deepX k]) hD1 (show BX + 1 ≤ wr.heap.size by omega) (show (1 : Nat) ≤ maxLen by decide) (fun i hi => ?_), (show ValSz ((4 : Int), [], [], [deepX k]) by simp [ValSz])⟩
        have hi2 : i < 1 := hi
        obtain rfl : i = 0 := by omega
        exact ⟨rfl, hd'⟩
      have Hdn := Lib.hid hdn; have HbXn := Lib.hid hbX'; have U5 := Lib.hid hu5
      obtain ⟨g1, g2, g3⟩ := RdB.news hrb'
      have G2 := Lib.hid g2; have G3 := Lib.hid g3
      have hl20 : (deepB k).length ≤ 40 := by rw [deep_len]; have := Hlt.out; have := HN.out; omega
      have Hl20 := Lib.hid hl20
      have hzn : BX < wn.heap.size := by omega
      have Hzn := Lib.hid hzn
      clear hdn hbX' hD1 hD2 hd' hrb' hu5 hs1 g1 g2 g3 Hd Hrb hl20 hzn xz
      have how0 : (wn.alloc (.cells #[.int .u8 34, .int .u8 (((deepB k).length : Int) % 256)] 5)).ownsRow wn.heap.size 5 1 (.slice (some ⟨wn.heap.size, 0, none⟩) 2 2) 2 [.int .u8 34, .int .u8 (((deepB k).length : Int) % 256)] :=
        World.ownsRow_lit (e := 5) (size := 1) wn #[.int .u8 34, .int .u8 (((deepB k).length : Int) % 256)] 2 (Nat.le_refl _) (by unfold maxLen; omega) (by simp)
      have How0 := Lib.hid how0
      have hwr : RowKit.wrap64 ((k : Int) + 1) = ((k + 1 : Nat) : Int) := by have := HN.out; have := Hlt.out; unfold RowKit.wrap64; omega
      have Hwr := Lib.hid hwr
      clear how0 hwr
      go_wp2_with (at_builtin; go_must (refine wpList_app eU8 _ (by rfl) _ _ (by rfl) wn.heap.size _ 2 _ (by rfl) How0.out pa (deepB k).length pc (by rfl) (B8 (deepB k)) (by simp [B8]) G2.out (fun ad h j u hu => ((Up.refl wn).alloc _).cell_some (G3.out ad h j u hu)) (B8_one _) (by have := Hl20.out; omega) (by have := Hl20.out; unfold maxLen; omega) (by simp) ?_; intro v9 w9 how9 hev9; have How9 := Lib.hid how9; have Hev9 := Lib.hid hev9; clear how9 hev9))
      go_roundw
      case rel =>
        have hu9 : Up wn w9 := Up.evo ((Up.refl wn).alloc (.cells #[.int .u8 34, .int .u8 (((deepB k).length : Int) % 256)] 5)) Hev9.out (fun j hj => by simp [Value.ownBlock] at hj; omega)
        have e9 : ([.int .u8 34, .int .u8 (((deepB k).length : Int) % 256)] : List Value) ++ B8 (deepB k) = B8 (deepB (k + 1)) := by
          rw [deepB]
          simp [B8]
        have h9 := How9.out
        rw [e9, show 2 + (deepB k).length = (deepB (k + 1)).length by rw [deep_len, deep_len]; omega] at h9
        refine ⟨k + 1, _, _, by have := Hlt.out; omega, by first | rfl | rw [Hwr.out], rdB_of_owns h9 (fun j hj => ?_), stable_bod (k + 2) _ _ _ _ _ _ (Keep.upS hu9) Hdn.out, hu9.blk HbXn.out, U5.out.trans hu9⟩
        have h1 := (h9.lt j hj).1
        have h2 := Hzn.out
        show BX + 1 ≤ j
        omega
      case measure => have := Hlt.out; simp [intOf]; omega
    · have hk' : k = N := by omega
      subst hk'
      obtain ⟨f0, f1⟩ := (⟨cell_of_row _ _ 0 _ _ _ (Hu.out.blk Hb1.out), cell_of_row _ _ 1 _ _ _ (Hu.out.blk Hb1.out)⟩ : wr.cell? ⟨B1, 0, none⟩ = some (.slice mo 1 mc) ∧ wr.cell? ⟨B1, 1, none⟩ = some (.slice eo 1 ec))
      have x0 : wr.cell? ⟨BX, 0, none⟩ = some (.slice x1 xn xc) := cell_of_row _ _ 0 _ _ _ hbX
      have x1' : wr.cell? ⟨BX, 1, none⟩ = some (.slice x2 xm xd) := cell_of_row _ _ 1 _ _ _ hbX
      have hall := deep_all HN.out
      have hlen : wrongA filU 0 (deepX k) = 0 → (rawB filU 12 0 (deepX k)).length ≤ 1099511627776 - 8200 := fun h => by
        rcases hall with ⟨h12, hb, _⟩ | ⟨_, hb, _⟩
        · have h1 := bytesC_ok (f := filU) (msg := 0) (x := deepX k) (by rw [hb])
          omega
        · have h2 : (bytesC filU 0 (deepX k)).2 = 10 := by rw [hb]
          rcases (show (bytesC filU 0 (deepX k)).2 = 0 ∨ (bytesC filU 0 (deepX k)).2 = 4 from by
            unfold bytesC
            rw [if_neg (by rw [h]; simp)]
            split
            · exact .inr rfl
            · exact .inl rfl) with h3 | h3
          · rw [h3] at h2; cases h2
          · rw [h3] at h2; cases h2
      have hby := bytes_c (k + 1) (.agg #[.slice mo 1 mc, .slice eo 1 ec]) (.slice x1 xn xc) (.slice x2 xm xd) filU 0 (deepX k) wr (Hf3.out.up Hu.out) (bod_all Hd.out) (HT.out.up (U3.out.trans Hu.out)) hlen
      have Hall := Lib.hid hall
      obtain ⟨CB, hCB⟩ : ∃ CB, bytesC filU 0 (deepX k) = CB := ⟨_, rfl⟩
      obtain ⟨RC, hRC⟩ : ∃ RC, parseA filU 0 (deepB k) = RC := ⟨_, rfl⟩
      obtain ⟨CB, ce⟩ := CB
      obtain ⟨RB, re⟩ := RC
      rw [hCB, hRC] at Hall
      rw [hCB] at hby
      simp only at hby
      have Hby := Lib.hid hby; have HRC := Lib.hid hRC
      have hl40 : (deepB k).length ≤ 40 := by rw [deep_len]; have := HN.out; omega
      have Hl40 := Lib.hid hl40
      clear hby hlen hall hCB hRC hl40 hk
      go_upto_region 14 with (go_at_call 13; go_must (refine Hby.out.mono ?_; rintro e w5 ⟨vx, rfl, how, hu5⟩; obtain ⟨qa, qc, rfl⟩ := own_val how))
      have U5 := Lib.hid (Hu.out.trans hu5); have HbX5 := Lib.hid (hu5.blk HbXr.out); have Hd5 := Lib.hid (stable_bod (k + 1) _ _ All _ _ _ (Keep.upS hu5) (bod_all Hd.out)); have Hrb5 := Lib.hid ((Hrb.out.keep stable_u8 (S' := All) Keep.all).up stable_u8 hu5)
      clear how hu5 f0 f1 x0 x1' Hby
      obtain ⟨f0, f1⟩ := (⟨cell_of_row _ _ 0 _ _ _ (U5.out.blk Hb1.out), cell_of_row _ _ 1 _ _ _ (U5.out.blk Hb1.out)⟩ : w5.cell? ⟨B1, 0, none⟩ = some (.slice mo 1 mc) ∧ w5.cell? ⟨B1, 1, none⟩ = some (.slice eo 1 ec))
      have hpa := parse_c (.agg #[.slice mo 1 mc, .slice eo 1 ec]) filU 0 (.slice pa (deepB k).length pc) (deepB k) w5 (Hf3.out.up U5.out) Hrb5.out (by have := Hl40.out; omega) (HT.out.up (U3.out.trans U5.out))
      rw [HRC.out] at hpa
      have Hpa := Lib.hid hpa
      clear hpa
      go_upto_region 15 with (go_at_call 14; go_must (refine Hpa.out.mono ?_; rintro e w6 ⟨vv, vu, rfl, hd, hu⟩; obtain ⟨s1, n1, d1, s2, n2, d2, hbt⟩ := bod_two hd; simp only [List.cons.injEq, and_true] at hbt; obtain ⟨rfl, rfl⟩ := hbt))
      have hux := hu.alloc (.cells #[.slice s1 n1 d1, .slice s2 n2 d2] 29)
      have hd7 := stable_bod 13 _ _ All _ _ _ (Keep.upS ((Up.refl w6).alloc (.cells #[.slice s1 n1 d1, .slice s2 n2 d2] 29))) (bod_all hd)
      have hbZ := blk_new w6 (.cells #[.slice s1 n1 d1, .slice s2 n2 d2] 29) (g := w6.heap.size) rfl
      obtain ⟨Z, hZ⟩ : ∃ Z, w6.heap.size = Z := ⟨_, rfl⟩
      rw [hZ] at hbZ ⊢
      generalize w6.alloc (.cells #[.slice s1 n1 d1, .slice s2 n2 d2] 29) = w7 at *
      have U7 := Lib.hid (U3.out.trans (U5.out.trans hux)); have HbX7 := Lib.hid (hux.blk HbX5.out); have HbZ := Lib.hid hbZ; have Hd7 := Lib.hid hd7
      have Hdx7 := Lib.hid (stable_bod (k + 1) _ _ All _ _ _ (Keep.upS hux) Hd5.out)
      clear hux hd7 hbZ hd hu hZ f0 f1 Hpa hbX
      have hkn := HN.out
      rcases Hall.out with ⟨h12, hb, hp⟩ | ⟨h12, hb, hp⟩
      · simp only [Prod.mk.injEq] at hb hp
        obtain ⟨rfl, rfl⟩ := hb
        obtain ⟨rfl, rfl⟩ := hp
        have hg : ¬ (12 : Int) < (k : Int) + 1 := by omega
        have x0 : w7.cell? ⟨BX, 0, none⟩ = some (.slice x1 xn xc) := cell_of_row _ _ 0 _ _ _ HbX7.out
        have x1' : w7.cell? ⟨BX, 1, none⟩ = some (.slice x2 xm xd) := cell_of_row _ _ 1 _ _ _ HbX7.out
        have z0 : w7.cell? ⟨Z, 0, none⟩ = some (.slice s1 n1 d1) := cell_of_row _ _ 0 _ _ _ HbZ.out
        have z1 : w7.cell? ⟨Z, 1, none⟩ = some (.slice s2 n2 d2) := cell_of_row _ _ 1 _ _ _ HbZ.out
        have Hsm := Lib.hid (same_b 13 (deepX k) _ _ _ _ w7 (bod_le (by omega) Hdx7.out) Hd7.out)
        go_wp2_with (go_at_call 20; go_must (refine Hsm.out.mono ?_; rintro e w8 ⟨rfl, hu⟩))
        go_ret
        exact ⟨rfl, U7.out.trans hu⟩
      · simp only [Prod.mk.injEq] at hb hp
        obtain ⟨rfl, rfl⟩ := hb
        obtain ⟨rfl, rfl⟩ := hp
        have hg : (12 : Int) < (k : Int) + 1 := by omega
        go_wp2_with fail
        go_ret
        exact ⟨rfl, U7.out⟩
end Go.Proofs.YtbceapeoknngnaaGreatDoor
