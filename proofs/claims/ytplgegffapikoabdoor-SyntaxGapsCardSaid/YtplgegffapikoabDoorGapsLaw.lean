/-
  SyntaxGaps: the law's walk.
-/
import Derived.Test.YtplgegffapikoabDoorSynA
import Derived.Test.YtplgegffapikoabDoorGaps
import Derived.Test.YtplgegffapikoabDoorSameFile
import Derived.Laws.IdiomStrings
set_option linter.unusedVariables false
namespace Go.Proofs.YtplgegffapikoabDoor
open Go.RowKit
theorem conv_bytes (s : ByteArray) (w : World) : ∃ (w1 : World) (cap : Nat), (convert 9 40 (.string s)).run Tryd.prog w = .ok (.slice (some ⟨w.heap.size, 0, none⟩) s.size cap) w1 ∧ Up w w1 ∧ ∀ k, (hk : k < s.size) → w1.cell? ⟨w.heap.size, k, none⟩ = some (.int .u8 (s[k].toNat : Int)) := by
  refine ⟨_, _, run_bytes_of_string (P := Tryd.prog) w 9 40 5 s Tryd.underlying9 Tryd.underlying40 Tryd.underlying5, (Up.refl w).drew.alloc _, fun k hk => ?_⟩
  have hb : (w.drew.alloc (.cells (bytesRow s (grownCap w s.size 0 5)) 5 ((bytesRow s (grownCap w s.size 0 5)).size, (bytesRow s (grownCap w s.size 0 5)).size + 1))).heap[w.heap.size]? = some _ := heap_alloc_new w.drew _
  rw [cell_of_row _ _ _ _ _ _ hb]
  exact bytesRow_at s _ k hk
theorem parse_small {s : List UInt8} (h : (parseS s).2.1 = 0) : s.length ≤ 3000 := by
  rcases Nat.lt_or_ge 3000 s.length with h1 | h1
  · rw [parse_much h1] at h; cases h
  · exact h1
theorem gaps_len (note : List UInt8) : ∀ l : List UInt8, (gaps note l).length ≤ l.length * (note.length + 5)
  | [] => by simp [gaps_nil]
  | c :: l => by
    have := gaps_len note l
    rw [List.length_cons, Nat.succ_mul]
    by_cases hc : c = 10
    · subst hc; rw [gaps_nl]; simp; omega
    · rw [gaps_cons note hc]; simp; omega
theorem gaps_app (note l m : List UInt8) : gaps note (l ++ m) = gaps note l ++ gaps note m := by unfold gaps; rw [List.flatMap_append]
theorem take_next {s : ByteArray} {k : Nat} (h : k < s.size) : s.data.toList.take (k + 1) = s.data.toList.take k ++ [s[k]] := by
  rw [List.take_succ_eq_append_getElem (by exact h)]
  rfl

set_option maxRecDepth 100000 in
set_option maxHeartbeats 3200000 in
theorem syntaxGaps_any (s note : ByteArray) (w : World) (hn : note.size ≤ 140737488355328) (hev : EvR w) (hpw : Pow w) :
    Calls Tryd.prog 5 #[.string s, .string note] w fun e w' => e = .returned (.bool true) ∧ Up w w' := by
  have ha := alive_2 w hev hpw
  have hp1 := fun W (u : Up w W) => parse_s s W (hev.up u)
  have hp2 := fun t W (u : Up w W) => parse_s t W (hev.up u)
  have Ha := Lib.hid ha; have Hp1 := Lib.hid hp1; have Hp2 := Lib.hid hp2; have Hn := Lib.hid hn
  clear ha hp1 hp2 hev hpw
  go_enter Tryd.func5, Tryd.ntmps5
  go_wp2_with fail
  refine Ha.out.mono ?_
  rintro e w1 ⟨rfl, hu1⟩
  have HU1 := Lib.hid hu1
  clear hu1 Ha
  go_wp2_with fail
  refine (Hp1.out _ HU1.out).mono ?_
  rintro e w2 ⟨v, rfl, hf, hu2⟩
  have Hf := Lib.hid (hf.keep Keep.lt)
  obtain ⟨vm, ve, rfl, hm, he⟩ := hf
  obtain ⟨mo, mc, rfl, _, _⟩ := hm.val
  obtain ⟨eo, ec, rfl, _, _⟩ := he.val
  have HU2 := Lib.hid (HU1.out.trans hu2)
  clear hm he hu2 Hp1 HU1
  obtain ⟨R, hR⟩ : ∃ R, parseS s.data.toList = R := ⟨_, rfl⟩
  rw [hR] at Hf ⊢
  have HR := Lib.hid hR
  clear hR
  obtain ⟨X, hX⟩ : ∃ X, w2.heap.size = X := ⟨_, rfl⟩
  obtain ⟨w3, hw3⟩ : ∃ w3, w3 = (w2.alloc (.cells #[.slice mo R.1.msgs.length mc, .slice eo R.1.enums.length ec] 25)).alloc (.cells #[.int .i64 R.2.1, .int .i64 (R.2.2 : Int)] 28) := ⟨_, rfl⟩
  have HB1 := Lib.hid (hw3 ▸ blk_old _ (blk_new w2 (.cells #[.slice mo R.1.msgs.length mc, .slice eo R.1.enums.length ec] 25) hX.symm))
  have HB2 := Lib.hid (hw3 ▸ blk_new (w2.alloc (.cells #[.slice mo R.1.msgs.length mc, .slice eo R.1.enums.length ec] 25)) (.cells #[.int .i64 R.2.1, .int .i64 (R.2.2 : Int)] 28) (g := X + 1) (by simp [← hX]))
  have HU3 := Lib.hid (hw3 ▸ (((Up.refl w2).alloc (.cells #[.slice mo R.1.msgs.length mc, .slice eo R.1.enums.length ec] 25)).alloc (.cells #[.int .i64 R.2.1, .int .i64 (R.2.2 : Int)] 28)) : Up w2 w3)
  go_upto_region 4 with (fail)
  rw [← hw3]
  have HX := Lib.hid hX
  clear hw3 hX
  have z0 : w3.cell? ⟨X + 1, 0, none⟩ = some (.int .i64 R.2.1) := cell_of_row w3 _ 0 _ _ _ HB2.out
  have HUw := Lib.hid (HU2.out.trans HU3.out)
  by_cases h0 : R.2.1 = 0
  case neg =>
    have j : (R.2.1 != 0) = true := by rw [bne_iff_ne]; exact h0
    clear h0
    go_wp2_with fail
    go_ret
    exact ⟨rfl, HUw.out⟩
  case pos =>
    rw [h0] at z0
    have H0 := Lib.hid h0
    have hs3 := parse_small (by rw [HR.out]; exact h0)
    have Hs3 := Lib.hid (show s.size ≤ 3000 from hs3)
    clear h0 hs3
    go_upto_region 6 with (fail)
    obtain ⟨w4, cap, hcv, hu4, hcells⟩ := conv_bytes note w3
    have HU4 := Lib.hid hu4; have HC := Lib.hid hcells
    obtain ⟨Y, hY⟩ : ∃ Y, w3.heap.size = Y := ⟨_, rfl⟩
    rw [hY] at hcv HC
    clear hu4 hcells z0 hY
    go_wp2_with fail
    clear hcv
    go_loopw [25] (fun i wr => ∃ k : Nat, k ≤ note.size ∧ i = .int .i64 k ∧ wr = w4 ∧ ∀ j, (hj : j < note.size) → j < k → note[j] ≠ 10) (fun i _ => note.size - (intOf i).toNat)
    case atStart => exact ⟨0, by omega, rfl, rfl, fun j _ h => absurd h (by omega)⟩
    case round =>
      obtain ⟨k, hk, rfl, hwr, hg⟩ := hrel
      subst hwr
      have Hg := Lib.hid hg
      clear hg
      by_cases hlt : k < note.size
      · have hc := HC.out k hlt
        have i0 : (0 : Int) ≤ (k : Int) := by omega
        have i1 : (k : Int) < (note.size : Int) := by omega
        by_cases h10 : note[k] = 10
        · have hc' : wr.cell? ⟨Y, k, none⟩ = some (.int .u8 10) := by rw [hc, h10]; rfl
          clear hc h10
          go_wp2_with fail
          go_ret
          exact ⟨rfl, HUw.out.trans HU4.out⟩
        · have e1 : ((note[k].toNat : Int) == 10) = false := by
            rw [beq_eq_false_iff_ne]
            intro e
            exact h10 (UInt8.toNat_inj.1 (by have : note[k].toNat = 10 := by omega
                                             rw [this]; rfl))
          have H10 := Lib.hid h10
          obtain ⟨c, hcc⟩ : ∃ c, c = note[k].toNat := ⟨_, rfl⟩
          rw [← hcc] at hc e1
          clear h10 hcc
          go_wp2_with fail
          go_roundw
          case rel =>
            refine ⟨k + 1, by omega, by go_num, trivial, fun j hj hjk => ?_⟩
            by_cases hjk2 : j = k
            · subst hjk2; exact H10.out
            · exact Hg.out j hj (by omega)
          case measure => simp [intOf]; omega
      · have hno : (10 : UInt8) ∉ note.data.toList := by
          intro hm
          obtain ⟨j, hj, he⟩ := List.getElem_of_mem hm
          exact Hg.out j hj (by have : j < note.size := hj; omega) he
        have Hno := Lib.hid hno
        clear hno Hg HC
        go_wp2_with fail
        go_loopw [34, 9] (fun i t wr2 => ∃ (q : Nat) (tt : ByteArray), q ≤ s.size ∧ i = .int .i64 q ∧ t = .string tt ∧ tt.data.toList = gaps note.data.toList (s.data.toList.take q) ∧ wr2 = wr) (fun i _ _ => s.size - (intOf i).toNat)
        case atStart => exact ⟨0, ⟨#[]⟩, by omega, rfl, rfl, rfl, rfl⟩
        case round =>
          obtain ⟨q, tt, hq, rfl, rfl, htt, hwr2⟩ := hrel
          subst hwr2
          have Htt := Lib.hid htt
          have hbd : tt.data.toList.length ≤ 3000 * (140737488355328 + 5) := by
            rw [htt]
            refine Nat.le_trans (gaps_len _ _) ?_
            have h1 : (s.data.toList.take q).length ≤ 3000 := by rw [List.length_take]; have hh : s.data.toList.length = s.size := rfl; have := Hs3.out; omega
            have h2 : note.data.toList.length ≤ 140737488355328 := Hn.out
            exact Nat.mul_le_mul h1 (by omega)
          have Hbd := Lib.hid hbd
          clear htt hbd
          by_cases hlt2 : q < s.size
          · have i0 : (0 : Int) ≤ (q : Int) := by omega
            have i1 : (q : Int) < (s.size : Int) := by omega
            have hsl := fun wx => sl_1 hlt2 wx
            have jw : IntKind.i64.wrap ((q : Int) + 1) = (q : Int) + 1 := by rw [IntKind.wrap_i64]; have := Hs3.out; omega
            have hnx := take_next hlt2
            have h2 : note.data.toList.length ≤ 140737488355328 := Hn.out
            by_cases h10 : s[q] = 10
            · obtain ⟨s1, hs1, cat1⟩ := cat_run tt ⟨#[32, 32, 47, 47]⟩ tt.data.toList [32, 32, 47, 47] rfl rfl (by have := Hbd.out; simp only [List.length_cons, List.length_nil]; omega)
              obtain ⟨s2, hs2, cat2⟩ := cat_run s1 note _ note.data.toList hs1 rfl (by have := Hbd.out; simp only [List.length_append, List.length_cons, List.length_nil]; omega)
              obtain ⟨s3, hs3, cat3⟩ := cat_run s2 (s.extract q (q + 1)) _ [s[q]] hs2 (dr_ext1 hlt2) (by have := Hbd.out; simp only [List.length_append, List.length_cons, List.length_nil]; omega)
              have Hs := Lib.hid (show s3.data.toList = gaps note.data.toList (s.data.toList.take (q + 1)) from by
                rw [hs3, hnx, gaps_app, Htt.out, h10, gaps_nl, gaps_nil]
                simp only [List.append_assoc, List.cons_append, List.nil_append])
              have e1 : ((s[q].toNat : Int) == 10) = true := by rw [h10]; rfl
              obtain ⟨c, hcc⟩ : ∃ c, s[q].toNat = c := ⟨_, rfl⟩
              rw [hcc] at e1
              clear hs1 hs2 hs3 h10 hnx h2
              go_wp2_with fail
              go_roundw
              case rel => exact ⟨q + 1, s3, by omega, by go_num, rfl, Hs.out, trivial⟩
              case measure => simp [intOf]; omega
            · obtain ⟨s3, hs3, cat3⟩ := cat_run tt (s.extract q (q + 1)) _ [s[q]] rfl (dr_ext1 hlt2) (by have := Hbd.out; simp only [List.length_cons, List.length_nil]; omega)
              have Hs := Lib.hid (show s3.data.toList = gaps note.data.toList (s.data.toList.take (q + 1)) from by
                rw [hs3, hnx, gaps_app, Htt.out, gaps_cons _ h10, gaps_nil])
              have e1 : ((s[q].toNat : Int) == 10) = false := by
                rw [beq_eq_false_iff_ne]
                intro e
                exact h10 (UInt8.toNat_inj.1 (by have : s[q].toNat = 10 := by omega
                                                 rw [this]; rfl))
              obtain ⟨c, hcc⟩ : ∃ c, s[q].toNat = c := ⟨_, rfl⟩
              rw [hcc] at e1
              clear hs3 h10 hnx h2
              go_wp2_with fail
              go_roundw
              case rel => exact ⟨q + 1, s3, by omega, by go_num, rfl, Hs.out, trivial⟩
              case measure => simp [intOf]; omega
          · have hqe : s.data.toList.take q = s.data.toList := List.take_of_length_le (by have : s.data.toList.length = s.size := rfl; omega)
            have Hte := Lib.hid (show tt.data.toList = gaps note.data.toList s.data.toList from by rw [Htt.out, hqe])
            clear hqe Htt
            by_cases hbig : 3000 < tt.size
            · have i1 : (3000 : Int) < (tt.size : Int) := by omega
              go_wp2_with fail
              go_ret
              exact ⟨rfl, HUw.out.trans HU4.out⟩
            · have i1 : ¬ (3000 : Int) < (tt.size : Int) := by omega
              have hpg := parse_gaps note.data.toList Hno.out (s := s.data.toList) (by rw [HR.out]; exact H0.out) (by rw [← Hte.out]; exact Nat.not_lt.1 hbig)
              rw [← Hte.out, HR.out] at hpg
              have Hpg := Lib.hid hpg
              clear hpg hbig
              go_wp2_with fail
              refine (Hp2.out _ _ (HUw.out.trans HU4.out)).mono ?_
              rintro e w5 ⟨v, rfl, hf, hu5⟩
              have Hg := Lib.hid hf
              obtain ⟨vm2, ve2, rfl, hm2, he2⟩ := hf
              obtain ⟨mo2, mc2, rfl, _, _⟩ := hm2.val
              obtain ⟨eo2, ec2, rfl, _, _⟩ := he2.val
              have HU5 := Lib.hid (HU4.out.trans hu5)
              have Hu5 := Lib.hid hu5
              clear hm2 he2 hu5
              obtain ⟨T, hT⟩ : ∃ T, parseS tt.data.toList = T := ⟨_, rfl⟩
              rw [hT] at Hg Hpg ⊢
              have HT := Lib.hid hT
              clear hT
              have z0 := cell_of_row w5 (X + 1) 0 _ _ _ (HU5.out.blk HB2.out)
              have z1 := cell_of_row w5 (X + 1) 1 _ _ _ (HU5.out.blk HB2.out)
              have z2 := lt_of_block (HU5.out.blk HB2.out)
              have z3 := frozen_of_row w5 (X + 1) 0 _ _ (HU5.out.blk HB2.out)
              have z4 := frozen_of_row w5 (X + 1) 1 _ _ (HU5.out.blk HB2.out)
              go_upto_region 23 with (fail)
              obtain ⟨w6, hw6⟩ : ∃ w6, w6 = (w5.setCell ⟨X + 1, 0, none⟩ (.int .i64 T.2.1)).setCell ⟨X + 1, 1, none⟩ (.int .i64 (T.2.2 : Int)) := ⟨_, rfl⟩
              obtain ⟨w7, hw7⟩ : ∃ w7, w7 = w6.alloc (.cells #[.slice mo2 T.1.msgs.length mc2, .slice eo2 T.1.enums.length ec2] 25) := ⟨_, rfl⟩
              have hsz : w6.heap.size = w5.heap.size := by rw [hw6]; simp
              obtain ⟨Z, hZ⟩ : ∃ Z, w5.heap.size = Z := ⟨_, rfl⟩
              rw [← hw6, ← hw7, hZ]
              have hXw : X ≤ w.heap.size ∨ w.heap.size ≤ X + 1 := by omega
              have hU7 : Up w w7 := by
                have h1 : w.heap.size ≤ X := by have := HU2.out.size; have := HX.out; omega
                rw [hw7, hw6]
                exact (((HUw.out.trans HU5.out).setCell (p := ⟨X + 1, 0, none⟩) (by simp only; omega) _).setCell (p := ⟨X + 1, 1, none⟩) (by simp only; omega) _).alloc _
              have hfb6 := heap_setCell_same (w5.setCell ⟨X + 1, 0, none⟩ (.int .i64 T.2.1)) (X + 1) 1 _ _ (.int .i64 (T.2.2 : Int)) (heap_setCell_same w5 (X + 1) 0 _ _ (.int .i64 T.2.1) (HU5.out.blk HB2.out))
              rw [← hw6] at hfb6
              have hfb7 : w7.heap[X + 1]? = _ := hw7 ▸ blk_old _ hfb6
              have y0 : w7.cell? ⟨X + 1, 0, none⟩ = some (.int .i64 T.2.1) := by rw [cell_of_row w7 (X + 1) 0 _ _ _ hfb7]; rfl
              have hk6 : ∀ S : Nat → Prop, ¬ S (X + 1) → Keep S w5 S w6 := fun S hS => hw6 ▸ (Keep.setCell (p := ⟨X + 1, 0, none⟩) hS _).trans (Keep.setCell (p := ⟨X + 1, 1, none⟩) hS _)
              have hF7 : FilV All w7 _ R.1 := ((((Hf.out.up HU3.out).up HU5.out).keep (hk6 _ (fun h => by unfold Lt at h; have := HX.out; omega))).up (hw7 ▸ (Up.refl w6).alloc _)).keep (Keep.weak (fun _ _ => trivial))
              have hG7 : FilV All w7 _ T.1 := ((Hg.out.keep (hk6 _ (fun h => by have h1 := lt_of_block (HU4.out.blk HB2.out); omega))).up (hw7 ▸ (Up.refl w6).alloc _)).keep (Keep.weak (fun _ _ => trivial))
              rw [Hpg.out.2] at y0
              have hX7 : w7.heap[X]? = some (.cells #[.slice mo R.1.msgs.length mc, .slice eo R.1.enums.length ec] 25 (0, 0)) := by
                rw [hw7]
                refine blk_old _ ?_
                rw [hw6]
                exact ((Below.heap_setCell _ _ _ X (by simp only; omega)).trans (Below.heap_setCell _ _ _ X (by simp only; omega))).trans (HU5.out.blk HB1.out)
              have y1 : w7.cell? ⟨X, 0, none⟩ = some (.slice mo R.1.msgs.length mc) := cell_of_row w7 X 0 _ _ _ hX7
              have y2 : w7.cell? ⟨X, 1, none⟩ = some (.slice eo R.1.enums.length ec) := cell_of_row w7 X 1 _ _ _ hX7
              have hZ7 : w7.heap[Z]? = _ := hw7 ▸ blk_new w6 _ (by rw [hsz, hZ])
              have y3 : w7.cell? ⟨Z, 0, none⟩ = some (.slice mo2 T.1.msgs.length mc2) := cell_of_row w7 Z 0 _ _ _ hZ7
              have y4 : w7.cell? ⟨Z, 1, none⟩ = some (.slice eo2 T.1.enums.length ec2) := cell_of_row w7 Z 1 _ _ _ hZ7
              rw [Hpg.out.1] at hG7 y3 y4
              have HF7 := Lib.hid hF7; have HG7 := Lib.hid hG7; have HU7 := Lib.hid hU7
              clear hF7 hG7 hU7 hw6 hw7 hsz hfb6 hfb7 hk6 hX7 hZ7 z0 z1 z2 z3 z4 hZ hXw
              go_wp2_with fail
              refine (samefile_r _ _ _ w7 HF7.out HG7.out).mono ?_
              rintro e w8 ⟨rfl, hu8⟩
              go_wp2_with fail
              go_ret
              exact ⟨rfl, HU7.out.trans hu8⟩
end Go.Proofs.YtplgegffapikoabDoor
