/-
  codec.How, body.Field.
  press.Wrong, of right programs.
  codec.Bytes.
  press.Run, of a right file's programs and a right body.
  Layings of the library's contracts at this dump (made by the kit's program).
  codec.Numbers.
-/
import Derived.Test.YtbceapeoknngnaaGreatDoorTx26
import Derived.Shelf.SlSortCmp.NoneTotal
import Derived.Shelf.SlicesG.Cmp
import Derived.Shelf.SlGeneric
import Derived.Ground.SlsfProg
import Derived.Ground.SlgcProg
import Derived.Lib.SortBridge
set_option linter.unusedVariables false
namespace Go.Proofs.YtbceapeoknngnaaGreatDoor
open Go.RowKit
set_option maxRecDepth 100000
set_option maxHeartbeats 800000 in
theorem how_any (k : Int) (w : World) :
   Calls Tryz.prog 21 #[.int .i64 k] w fun e w' => e = .returned (.int .i64 (howN k)) ∧ w' = w := by
 obtain ⟨h, hh⟩ : ∃ h, howN k = h := ⟨_, rfl⟩; rw [hh]; unfold howN at hh
 by_cases h6 : k = 6
 · subst h6; subst hh
   go_enter Tryz.func21, Tryz.ntmps21
   go_wp2_with fail
   go_ret
   exact ⟨rfl, rfl⟩
 by_cases h7 : k = 7
 · subst h7; subst hh
   go_enter Tryz.func21, Tryz.ntmps21
   go_wp2_with fail
   go_ret
   exact ⟨rfl, rfl⟩
 by_cases h8 : k = 8
 · subst h8; subst hh
   go_enter Tryz.func21, Tryz.ntmps21
   go_wp2_with fail
   go_ret
   exact ⟨rfl, rfl⟩
 by_cases h9 : k = 9
 · subst h9; subst hh
   go_enter Tryz.func21, Tryz.ntmps21
   go_wp2_with fail
   go_ret
   exact ⟨rfl, rfl⟩
 by_cases h10 : k = 10
 · subst h10; subst hh
   go_enter Tryz.func21, Tryz.ntmps21
   go_wp2_with fail
   go_ret
   exact ⟨rfl, rfl⟩
 rw [if_neg h6, if_neg h7, if_neg (by simp [h8, h9, h10])] at hh; subst hh; (have b6 : (k == 6) = false := by simpa using h6); (have b7 : (k == 7) = false := by simpa using h7); (have b8 : (k == 8) = false := by simpa using h8); (have b9 : (k == 9) = false := by simpa using h9); (have b10 : (k == 10) = false := by simpa using h10); clear h6 h7 h8 h9 h10
 go_enter Tryz.func21, Tryz.ntmps21
 go_wp2_with fail
 go_ret
 exact ⟨rfl, rfl⟩
open Lib (hid)
set_option maxHeartbeats 3200000 in
theorem prwrong_ok (v : Value) (l : List (List Stp)) (w : World) (hv : RdS DPrg 1 All w v l) (h10 : l.length ≤ 10) (hok : ∀ p ∈ l, PrgOk l.length p) :
   Calls Tryz.prog 63 #[v] w fun e w' => e = .returned (.agg #[.int .i64 0, .int .i64 0]) ∧ Up w w' := by
 obtain ⟨ao, cap, rfl, hc1, hc2⟩ := hv.val; have Hv := hid hv; have Hok := hid hok; clear hv hok; have hl10 : ¬ (10 < (l.length : Int)) := by omega
 go_enter Tryz.func63, Tryz.ntmps63
 (go_wp2_with fail); (go_loopw [14] (fun i wr => ∃ k : Nat, k ≤ l.length ∧ i = .int .i64 k ∧ Up w wr ∧ wr.heap[w.heap.size]? = some (.cells #[.int .i64 0, .int .i64 0] 67 (0, 0))) (fun i _ => l.length - (intOf i).toNat)); case atStart => exact ⟨0, by omega, rfl, (Up.refl w).alloc _, blk_new w _ rfl⟩
 case round =>
   obtain ⟨k, hk, rfl, hu, hb0⟩ := hrel; have Hb0 := hid hb0; clear hb0
   by_cases hlt : k < l.length
   · obtain ⟨b, o, cs, rfl, hb, hl, hcs, hd⟩ := (Hv.out.up stable_prg hu).at hlt; obtain ⟨vp, hd, hp⟩ := hd; subst hd; obtain ⟨po, pc, rfl, hp1, hp2⟩ := hp.val; have c0 := hcs 0 _ rfl; simp only [Nat.add_zero, Nat.mul_one] at c0; (have k0 : (0 : Int) ≤ (k : Int) := by omega); (have k1 : (k : Int) < (l.length : Int) := by omega); have hpk := Hok.out _ (List.getElem_mem hlt); have Hp := hid hp; have Hpk := hid hpk; clear hcs hl hp hpk; generalize l[k] = p at *; (have p16 : ¬ (16 < (p.length : Int)) := by have := Hpk.out.1; omega); obtain ⟨wo, rfl⟩ : ∃ wo : World, wo = wr := ⟨_, rfl⟩; have Hu := hid hu; clear hu; (go_wp2_with fail); (go_loopw [26] (fun i wr => ∃ k2 : Nat, k2 ≤ p.length ∧ i = .int .i64 k2 ∧ Up wo wr) (fun i _ => p.length - (intOf i).toNat)); case atStart => exact ⟨0, by omega, rfl, Up.refl _⟩
     case round =>
       obtain ⟨k2, hk2, rfl, hu2⟩ := hrel
       by_cases hlt2 : k2 < p.length
       · obtain ⟨b2, o2, cs, rfl, hb2, hl, hcs, hd⟩ := (Hp.out.up stable_stp hu2).at hlt2; obtain ⟨hd, hx⟩ := hd; subst hd; have s0 := hcs 0 _ rfl; have s1 := hcs 1 _ rfl; have s2 := hcs 2 _ rfl; have s3 := hcs 3 _ rfl; have s4 := hcs 4 _ rfl; simp only [Nat.add_zero] at s0; (have k20 : (0 : Int) ≤ (k2 : Int) := by omega); (have k21 : (k2 : Int) < (p.length : Int) := by omega); obtain ⟨⟨q1, q2⟩, ⟨q3, q4⟩, ⟨q5, q6⟩, q7, q8, q9, q10⟩ := Hpk.out.2.1 _ (List.getElem_mem hlt2)
         have hpr : ¬ (0 < (k2 : Int)) ∨ ((0 : Int) < (k2 : Int) ∧ ∃ n', wr.cell? ⟨b2, o2 + (k2 - 1) * 5 + 1, none⟩ = some (.int .i64 n') ∧ n' < p[k2].number) := by
           by_cases hz : 0 < k2
           · obtain ⟨j, rfl⟩ : ∃ j, k2 = j + 1 := ⟨k2 - 1, by omega⟩; obtain ⟨b3, o3, cs, he, _, _, hcs, hd⟩ := (Hp.out.up stable_stp hu2).at (i := j) (by omega); simp only [Option.some.injEq, Addr.mk.injEq, and_true] at he; obtain ⟨rfl, rfl⟩ := he; obtain ⟨hd, _⟩ := hd; subst hd; exact .inr ⟨by omega, _, hcs 1 _ rfl, Hpk.out.2.2 j hlt2⟩
           · exact .inl (by omega)
         (have kz : ((k2 : Int) - 1).toNat = k2 - 1 := by omega); clear hcs hl hx; generalize p[k2] = st at *; obtain ⟨kd, nm, hw, fd, nx⟩ := st; simp only at s0 s1 s2 s3 s4 q1 q2 q3 q4 q5 q6 q7 q8 q9 q10 hpr; subst q7; obtain ⟨wi, rfl⟩ : ∃ wi : World, wi = wr := ⟨_, rfl⟩; (have f1 : ¬ (fd < 1) := by omega); (have f2 : ¬ (10 < fd) := by omega); (have n1 : ¬ (nm < 1) := by omega); (have n2 : ¬ (536870912 ≤ nm) := by omega); have Hu2 := hid hu2
         have hkd : (kd = 1 ∧ (howN fd == 2) = false ∧ (fd == 10) = false ∧ nx = -1) ∨ (kd = 2 ∧ (howN fd == 2) = false ∧ (fd == 10) = false ∧ nx = -1) ∨ (kd = 3 ∧ (howN fd == 2) = true ∧ (fd == 10) = false ∧ nx = -1) ∨ (kd = 4 ∧ (howN fd == 2) = true ∧ (fd == 10) = true ∧ ¬ (nx < 0) ∧ ¬ ((l.length : Int) ≤ nx)) := by
           (have h4 : kd = 1 ∨ kd = 2 ∨ kd = 3 ∨ kd = 4 := by omega); rcases h4 with rfl | rfl | rfl | rfl
           · exact .inl ⟨rfl, by simpa using q8, by simpa using q9, by simpa using q10⟩
           · exact .inr (.inl ⟨rfl, by simpa using q8, by simpa using q9, by simpa using q10⟩)
           · exact .inr (.inr (.inl ⟨rfl, by simpa using q8, by simpa using q9, by simpa using q10⟩))
           · (have q11 : 0 ≤ nx ∧ nx < (l.length : Int) := by simpa using q10); exact .inr (.inr (.inr ⟨rfl, by simpa using q8, by simpa using q9, by omega, by omega⟩))
         clear q1 q2 q3 q4 q5 q6 q8 q9 q10 hu2
         go_upto_region 11 with (fail)
         have hy := blk_new wi (.cells #[.int .i64 kd, .int .i64 nm, .int .i64 (howN fd), .int .i64 fd, .int .i64 nx] 128) rfl; have huy := (Up.refl wi).alloc (.cells #[.int .i64 kd, .int .i64 nm, .int .i64 (howN fd), .int .i64 fd, .int .i64 nx] 128); have hpy : ¬ (0 < (k2 : Int)) ∨ ((0 : Int) < (k2 : Int) ∧ ∃ n', (wi.alloc (.cells #[.int .i64 kd, .int .i64 nm, .int .i64 (howN fd), .int .i64 fd, .int .i64 nx] 128)).cell? ⟨b2, o2 + (k2 - 1) * 5 + 1, none⟩ = some (.int .i64 n') ∧ n' < nm) := hpr.imp id (fun ⟨h, n', hc, hn⟩ => ⟨h, n', huy.cell_some hc, hn⟩); have Huy := hid (Hu2.out.trans huy); generalize wi.alloc (.cells #[.int .i64 kd, .int .i64 nm, .int .i64 (howN fd), .int .i64 fd, .int .i64 nx] 128) = wy at *; have y0 : wy.cell? ⟨wi.heap.size, 0, none⟩ = some (.int .i64 kd) := cell_of_row wy _ 0 _ _ _ hy; have y1 : wy.cell? ⟨wi.heap.size, 1, none⟩ = some (.int .i64 nm) := cell_of_row wy _ 1 _ _ _ hy; have y2 : wy.cell? ⟨wi.heap.size, 2, none⟩ = some (.int .i64 (howN fd)) := cell_of_row wy _ 2 _ _ _ hy; have y3 : wy.cell? ⟨wi.heap.size, 3, none⟩ = some (.int .i64 fd) := cell_of_row wy _ 3 _ _ _ hy; have y4 : wy.cell? ⟨wi.heap.size, 4, none⟩ = some (.int .i64 nx) := cell_of_row wy _ 4 _ _ _ hy; clear hpr hy huy s0 s1 s2 s3 s4 c0; rcases hkd with ⟨rfl, g1, g2, rfl⟩ | ⟨rfl, g1, g2, rfl⟩ | ⟨rfl, g1, g2, rfl⟩ | ⟨rfl, g1, g2, g3, g4⟩
         all_goals
           go_upto_region 14 with (fail)
           go_cut [50] (fun v wc => v = .bool false ∧ ∃ n, wc = wy.drewN n)
           case first =>
             have d1 : decide (nm < 1) = false := decide_eq_false n1; have d2 : decide (536870912 ≤ nm) = false := decide_eq_false n2; rcases hpy with hz | ⟨hz, n', hn1, hn2⟩
             · have dz : decide ((0 : Int) < (k2 : Int)) = false := decide_eq_false hz; have dzn : decide (0 < k2) = false := decide_eq_false (by omega)
               go_quiet (fail)
               go_wp2_with fail
               go_meet
               exact ⟨rfl, _, rfl⟩
             · (have kz0 : 0 ≤ (k2 : Int) - 1 := by omega); (have kz1 : (k2 : Int) - 1 < p.length := by omega); have dz : decide ((0 : Int) < (k2 : Int)) = true := decide_eq_true hz; have dzn : decide (0 < k2) = true := decide_eq_true (by omega); have kz2 : decide (nm ≤ n') = false := decide_eq_false (by omega)
               go_quiet (fail)
               go_wp2_with fail
               go_meet
               exact ⟨rfl, _, rfl⟩
           case rest =>
             obtain ⟨rfl, n9, rfl⟩ := hcut; have x0 : (wy.drewN n9).cell? ⟨wi.heap.size, 0, none⟩ = _ := y0; have x2 : (wy.drewN n9).cell? ⟨wi.heap.size, 2, none⟩ = _ := y2; have x3 : (wy.drewN n9).cell? ⟨wi.heap.size, 3, none⟩ = _ := y3; have x4 : (wy.drewN n9).cell? ⟨wi.heap.size, 4, none⟩ = _ := y4; have Huz := hid (Huy.out.drewN n9); clear hpy y0 y1 y2 y3 y4 Huy; generalize wy.drewN n9 = wz at *; go_wp2_with fail
             go_cut [74] (fun v wc => v = .bool false ∧ ∃ n, wc = wz.drewN n)
             case first =>
               go_quiet ((go_at_call 21; exact Calls.quiet_of_same (how_any _ _)))
               go_wp2_with fail
               go_meet
               exact ⟨rfl, _, rfl⟩
             case rest =>
               obtain ⟨rfl, n8, rfl⟩ := hcut; have z0 : (wz.drewN n8).cell? ⟨wi.heap.size, 0, none⟩ = _ := x0; have z4 : (wz.drewN n8).cell? ⟨wi.heap.size, 4, none⟩ = _ := x4; clear x0 x2 x3 x4; have Hux := hid (Huz.out.drewN n8); generalize wz.drewN n8 = wx at *; go_wp2_with fail
               go_roundw
               (case rel => exact ⟨k2 + 1, by omega, by go_num, Hux.out⟩); case measure => simp [intOf]; omega
       · go_wp2_with fail
         go_roundw
         (case rel => exact ⟨k + 1, by omega, by go_num, Hu.out.trans hu2, hu2.blk Hb0.out⟩); case measure => simp [intOf]; omega
   · have r0 : wr.cell? ⟨w.heap.size, 0, none⟩ = some (.int .i64 0) := cell_of_row wr _ 0 _ _ _ Hb0.out; have r1 : wr.cell? ⟨w.heap.size, 1, none⟩ = some (.int .i64 0) := cell_of_row wr _ 1 _ _ _ Hb0.out; have rf' : ∀ o, wr.frozen? ⟨w.heap.size, o, none⟩ = false := fun o => frozen_of_row wr _ o _ _ Hb0.out; have rz : w.heap.size < wr.heap.size := lt_of_block Hb0.out; (go_wp2_with fail); refine bodyPost_ret (v := .agg #[.int .i64 0, .int .i64 0]) (by simp [results, Tryz.results63, go_sem, r0, r1]) rfl ?_; refine ⟨rfl, ?_⟩; repeat (first | (with_reducible refine Up.setCell ?_ ?_ _) | (with_reducible refine Up.alloc ?_ _) | (with_reducible refine Up.drew ?_))
     · exact hu
     all_goals (simp only; omega)
end Go.Proofs.YtbceapeoknngnaaGreatDoor
namespace Go.Proofs.YtbceapeoknngnaaGreatDoor
open Go.RowKit
theorem wrongA_parts {f : Fil} {msg : Int} {x : Bod} (h : wrongA f msg x = 0) : (wrongN f).1 = 0 ∧ 0 ≤ msg ∧ msg < f.msgs.length ∧ wrongB f 12 msg x = 0 := by
 unfold wrongA at h; split at h
 · contradiction
 rename_i h1; split at h
 · cases h
 · exact ⟨by simpa using h1, by omega, by omega, h⟩
set_option maxRecDepth 100000
open Lib (hid)
set_option maxHeartbeats 3200000 in
theorem prun_c (d : Nat) (v vv vu : Value) (f : Fil) (msg : Int) (x : Bod) (w : World) (hl : RdS DPrg 1 All w v (makeN f)) (hb : DBodF d All w x [vv, vu]) (hwr : wrongA f msg x = 0) (hlen : (rawB f 12 msg x).length ≤ 1099511627776 - 8200) :
   Calls Tryz.prog 36 #[v, .int .i64 msg, .agg #[vv, vu]] w fun e w' => ∃ v', e = .returned (.tuple #[v', .int .i64 (bytesC f msg x).2]) ∧ RdB All w' v' (bytesC f msg x).1 ∧ Up w w' := by
 obtain ⟨p1, p2, p3, p4⟩ := wrongA_parts hwr; obtain ⟨lo, lc, rfl, _, _⟩ := hl.val; (have hML : (makeN f).length = f.msgs.length := by simp [makeN]); rw [hML] at hl ⊢; obtain ⟨a1, n1, c1, a2, n2, c2, hbt⟩ := bod_two hb; simp only [List.cons.injEq, and_true] at hbt; obtain ⟨rfl, rfl⟩ := hbt
 have hA : bytesC f msg x = if 4000 < (rawB f 12 msg x).length then ([], 4) else (rawB f 12 msg x, 0) := by
   unfold bytesC; rw [if_neg (by rw [hwr]; simp)]
 rw [hA]; have hw10 := right_len p1
 have Hpw := hid (fun W (u : Up w W) => prwrong_ok (.slice lo f.msgs.length lc) (makeN f) W (hl.up stable_prg u) (by rw [hML]; omega) (fun p hp => by
   obtain ⟨m, hm, rfl⟩ := List.mem_map.1 hp; rw [hML]; exact prg_ok (right_msg p1 m hm)))
 have Hrun := hid (fun M b W (u : Up w W) (hM : MchAt W M f) (hb : BodAt d W b 0 x) => run_c f p1 12 d msg x M b 0 1 W (by decide) (by decide) p2 p3 hM hb p4 hlen); have Hl := hid hl; have Hb := hid hb; (have hm1 : ¬ (msg < 0) := by omega); (have hm2 : ¬ ((f.msgs.length : Int) ≤ msg) := by omega); clear hl hb hA hML hw10 hlen hwr p1 p2 p3 p4; generalize rawB f 12 msg x = RB at *; obtain ⟨ANS, hANS⟩ : ∃ ANS : List UInt8 × Int, (if 4000 < RB.length then ([], 4) else (RB, 0)) = ANS := ⟨_, rfl⟩; rw [hANS]; have HA := hid hANS; clear hANS
 go_enter Tryz.func36, Tryz.ntmps36
 go_upto_region 1 with (fail)
 have hb0 := blk_new w (.cells #[.slice a1 n1 c1, .slice a2 n2 c2] 29) (g := w.heap.size) rfl; have hu0 := (Up.refl w).alloc (.cells #[.slice a1 n1 c1, .slice a2 n2 c2] 29); obtain ⟨B0, hB0⟩ : ∃ B, w.heap.size = B := ⟨_, rfl⟩; rw [hB0] at hb0 ⊢; generalize w.alloc (.cells #[.slice a1 n1 c1, .slice a2 n2 c2] 29) = w1 at *; have Hb0 := hid hb0; have U1 := hid hu0; clear hb0 hu0 hB0
 go_upto_region 2 with (go_at_call 63; go_must (refine (Hpw.out _ U1.out).mono ?_; rintro e w2 ⟨rfl, hu⟩))
 have hb2 := blk_new w2 (.cells #[.int .i64 0, .int .i64 0] 67) (g := w2.heap.size) rfl; have hu2 := hu.alloc (.cells #[.int .i64 0, .int .i64 0] 67); obtain ⟨B2, hB2⟩ : ∃ B, w2.heap.size = B := ⟨_, rfl⟩; rw [hB2] at hb2 ⊢; generalize w2.alloc (.cells #[.int .i64 0, .int .i64 0] 67) = w3 at *; have U3 := hid (U1.out.trans hu2); have Hb3 := hid (hu2.blk Hb0.out); have f0 : w3.cell? ⟨B2, 0, none⟩ = some (.int .i64 0) := cell_of_row _ _ 0 _ _ _ hb2; clear hu hb2 hu2 hB2 Hpw
 go_upto_region 7 with (fail)
 clear f0; have hb4 := blk_new w3 (.cells #[.slice lo f.msgs.length lc, .int .i64 0] 134) (g := w3.heap.size) rfl; have hu4 := (Up.refl w3).alloc (.cells #[.slice lo f.msgs.length lc, .int .i64 0] 134); obtain ⟨B4, hB4⟩ : ∃ B, w3.heap.size = B := ⟨_, rfl⟩; rw [hB4] at hb4 ⊢; generalize w3.alloc (.cells #[.slice lo f.msgs.length lc, .int .i64 0] 134) = w4 at *; have U4 := hid (U3.out.trans hu4); have Hb4 := hid hb4; have hb5 := hu4.blk Hb3.out; have hr := Hrun.out B4 B0 w4 U4.out ⟨_, cell_of_row _ _ 0 _ _ _ hb4, cell_of_row _ _ 1 _ _ _ hb4, Hl.out.up stable_prg U4.out⟩ ⟨_, _, cell_of_row _ _ 0 _ _ _ hb5, cell_of_row _ _ 1 _ _ _ hb5, stable_bod d _ _ _ _ _ _ (Keep.upS U4.out) Hb.out⟩; have Hr := hid hr; clear hr hb4 hb5 hu4 hB4 Hrun
 go_upto_region 8 with (go_at_call 64; go_must (refine Hr.out.mono ?_; rintro e w5 ⟨v5, rfl, how, hu⟩; obtain ⟨a5, c5, rfl⟩ := own_val how))
 have e0 : w5.cell? ⟨B4, 1, none⟩ = some (.int .i64 0) := cell_of_row _ _ 1 _ _ _ (hu.blk Hb4.out); have U5 := hid (U4.out.trans hu); have Hrd := hid (rdB_of_owns (S := All) how (fun _ _ => trivial)); clear hu how
 by_cases hbig : 4000 < RB.length
 · have ha := HA.out; rw [if_pos hbig] at ha; subst ha; (have hb2 : (4000 : Int) < (RB.length : Int) := by omega); (go_wp2_with fail); refine bodyPost_ret (v := .tuple #[.slice none 0 0, .int .i64 4]) (by simp [results, Tryz.results36, go_sem]) rfl ?_; exact ⟨_, rfl, rdB_nil _ _, U5.out⟩
 · have ha := HA.out; rw [if_neg hbig] at ha; subst ha; (have hb2 : ¬ (4000 : Int) < (RB.length : Int) := by omega); (go_wp2_with fail); refine bodyPost_ret (v := .tuple #[.slice a5 RB.length c5, .int .i64 0]) (by simp [results, Tryz.results36, go_sem]) rfl ?_; exact ⟨_, rfl, Hrd.out, U5.out⟩
end Go.Proofs.YtbceapeoknngnaaGreatDoor
namespace Go.Proofs
open Go.Shelf
def Tryz.sortL_ren : Go.Shelf.Ren := ⟨fun | 6 => 50 | 15 => 90 | 14 => 89 | 28 => 158 | 29 => 159 | 20 => 150 | 21 => 151 | 22 => 152 | 23 => 153 | 24 => 154 | 25 => 155 | 26 => 156 | 27 => 157 | 46 => 189 | 47 => 190 | 48 => 191 | 49 => 192 | 50 => 193 | 57 => 199 | n => n, fun | 22 => 30 | 24 => 3 | 25 => 104 | 3 => 3 | 39 => 120 | 0 => 0 | 53 => 229 | 55 => 54 | 4 => 4 | 46 => 223 | 45 => 222 | 50 => 102 | 5 => 5 | 9 => 9 | 66 => 263 | 70 => 267 | 76 => 271 | 77 => 272 | n => n, fun | n => n⟩
theorem Tryz.sortL : Go.Proofs.SlLaysF.n6 Tryz.prog Tryz.sortL_ren := {
 mixed := by kernel_rfl
 f6 := ⟨Tryz.f50.name, by decide, Tryz.func50.trans (congrArg some (by kernel_rfl))⟩
 f14 := ⟨Tryz.f89.name, by decide, Tryz.func89.trans (congrArg some (by kernel_rfl))⟩
 f15 := Tryz.func90.trans (congrArg some (by kernel_rfl))
 f20 := ⟨Tryz.f150.name, by decide, Tryz.func150.trans (congrArg some (by kernel_rfl))⟩
 f21 := ⟨Tryz.f151.name, by decide, Tryz.func151.trans (congrArg some (by kernel_rfl))⟩
 f22 := ⟨Tryz.f152.name, by decide, Tryz.func152.trans (congrArg some (by kernel_rfl))⟩
 f23 := ⟨Tryz.f153.name, by decide, Tryz.func153.trans (congrArg some (by kernel_rfl))⟩
 f24 := ⟨Tryz.f154.name, by decide, Tryz.func154.trans (congrArg some (by kernel_rfl))⟩
 f25 := ⟨Tryz.f155.name, by decide, Tryz.func155.trans (congrArg some (by kernel_rfl))⟩
 f26 := ⟨Tryz.f156.name, by decide, Tryz.func156.trans (congrArg some (by kernel_rfl))⟩
 f27 := ⟨Tryz.f157.name, by decide, Tryz.func157.trans (congrArg some (by kernel_rfl))⟩
 f28 := Tryz.func158.trans (congrArg some (by kernel_rfl))
 f29 := Tryz.func159.trans (congrArg some (by kernel_rfl))
 f46 := ⟨Tryz.f189.name, by decide, Tryz.func189.trans (congrArg some (by kernel_rfl))⟩
 f47 := Tryz.func190.trans (congrArg some (by kernel_rfl))
 f48 := Tryz.func191.trans (congrArg some (by kernel_rfl))
 f49 := ⟨Tryz.f192.name, by decide, Tryz.func192.trans (congrArg some (by kernel_rfl))⟩
 f50 := ⟨Tryz.f193.name, by decide, Tryz.func193.trans (congrArg some (by kernel_rfl))⟩
 f57 := ⟨Tryz.f199.name, by decide, Tryz.func199.trans (congrArg some (by kernel_rfl))⟩
 t0 := Tryz.underlying0
 a0 := Tryz.isAgg0
 z0 := Tryz.sizeOf0
 v0 := Tryz.zeroValue0
 t3 := Tryz.underlying3
 a3 := Tryz.isAgg3
 z3 := Tryz.sizeOf3
 v3 := Tryz.zeroValue3
 t4 := Tryz.underlying4
 a4 := Tryz.isAgg4
 z4 := Tryz.sizeOf4
 v4 := Tryz.zeroValue4
 t5 := Tryz.underlying5
 a5 := Tryz.isAgg5
 z5 := Tryz.sizeOf5
 v5 := Tryz.zeroValue5
 t9 := Tryz.underlying9
 a9 := Tryz.isAgg9
 z9 := Tryz.sizeOf9
 v9 := Tryz.zeroValue9
 t22 := Tryz.underlying30
 a22 := Tryz.isAgg30
 z22 := Tryz.sizeOf30
 v22 := Tryz.zeroValue30
 a24 := Tryz.isAgg3
 z24 := Tryz.sizeOf3
 t25 := Tryz.underlying104
 a25 := Tryz.isAgg104
 z25 := Tryz.sizeOf104
 v25 := Tryz.zeroValue104
 t39 := Tryz.underlying120
 a39 := Tryz.isAgg120
 z39 := Tryz.sizeOf120
 v39 := Tryz.zeroValue120
 t45 := Tryz.underlying222
 a45 := Tryz.isAgg222
 z45 := Tryz.sizeOf222
 v45 := Tryz.zeroValue222
 t46 := Tryz.underlying223
 a46 := Tryz.isAgg223
 z46 := Tryz.sizeOf223
 v46 := Tryz.zeroValue223
 t50 := Tryz.underlying102
 a50 := Tryz.isAgg102
 z50 := Tryz.sizeOf102
 v50 := Tryz.zeroValue102
 t53 := Tryz.underlying229
 a53 := Tryz.isAgg229
 z53 := Tryz.sizeOf229
 v53 := Tryz.zeroValue229
 t55 := Tryz.underlying54
 a55 := Tryz.isAgg54
 z55 := Tryz.sizeOf54
 v55 := Tryz.zeroValue54
 t66 := Tryz.underlying263
 a66 := Tryz.isAgg263
 z66 := Tryz.sizeOf263
 v66 := Tryz.zeroValue263
 t70 := Tryz.underlying267
 a70 := Tryz.isAgg267
 z70 := Tryz.sizeOf267
 v70 := Tryz.zeroValue267
 t76 := Tryz.underlying271
 a76 := Tryz.isAgg271
 z76 := Tryz.sizeOf271
 v76 := Tryz.zeroValue271
 t77 := Tryz.underlying272
 a77 := Tryz.isAgg272
 z77 := Tryz.sizeOf272
 v77 := Tryz.zeroValue272 }
def Tryz.cmpL_ren : Go.Shelf.Ren := ⟨fun | 5 => 47 | 7 => 86 | n => n, fun | 22 => 3 | 3 => 3 | 4 => 4 | n => n, fun | n => n⟩
theorem Tryz.cmpL : Go.Proofs.SlLaysC2.n5 Tryz.prog Tryz.cmpL_ren := {
 mixed := by kernel_rfl
 f5 := ⟨Tryz.f47.name, by decide, Tryz.func47.trans (congrArg some (by kernel_rfl))⟩
 f7 := ⟨Tryz.f86.name, by decide, Tryz.func86.trans (congrArg some (by kernel_rfl))⟩
 t3 := Tryz.underlying3
 a3 := Tryz.isAgg3
 z3 := Tryz.sizeOf3
 v3 := Tryz.zeroValue3
 t4 := Tryz.underlying4
 a4 := Tryz.isAgg4
 z4 := Tryz.sizeOf4
 v4 := Tryz.zeroValue4
 t22 := Tryz.underlying3
 a22 := Tryz.isAgg3
 z22 := Tryz.sizeOf3
 v22 := Tryz.zeroValue3 }
end Go.Proofs
namespace Go.Proofs.YtbceapeoknngnaaGreatDoor
open Go.RowKit Go.Shelf Go.Lib Go.Sort
set_option maxRecDepth 100000
open Lib (hid)
theorem ltCP (x y : Int) : ltOf Lib.compareInt x y = decide (x < y) := by
 unfold ltOf Lib.compareInt
 by_cases h1 : x < y
 · simp [h1]
 · by_cases h2 : y < x <;> simp [h1, h2]
theorem swoCP : SWO (ltOf Lib.compareInt) where
 irrefl x := by rw [ltCP]; simp
 trans x y z h1 h2 := by rw [ltCP] at *; simp at *; omega
 ntrans x y z h1 h2 := by rw [ltCP] at *; simp at *; omega
theorem totCP (x y : Int) (h1 : ltOf Lib.compareInt x y = false) (h2 : ltOf Lib.compareInt y x = false) : x = y := by rw [ltCP] at *; simp at *; omega
theorem leCP : (fun x y : Int => !ltOf Lib.compareInt y x) = fun x y => decide (x ≤ y) := by
 funext x y
 rw [ltCP]
 by_cases h : x ≤ y
 · (have h' : ¬ y < x := by omega); simp [h, h']
 · (have h' : y < x := by omega); simp [h, h']
theorem cmp_readsP (blk off size : Nat) (w : World) : CmpReads Tryz.prog 47 #[] (Value.int .i64) Lib.compareInt blk off size w := fun _ _ _ _ x y => by
 refine (AnyG.cmp_Compare_int Tryz.cmpL x y _).mono ?_; rintro e w' ⟨he, hw⟩; exact ⟨he, 0, hw⟩
theorem take_putCellsP (s : List Int) (cur : Array Value) (h : s.length ≤ cur.size) : (putCells (Value.int .i64) 0 s.toArray cur).toList.take s.length = s.map (Value.int .i64) := by
 apply List.ext_getElem?; intro j; rw [List.getElem?_take, List.getElem?_map]
 by_cases hj : j < s.length
 · rw [if_pos hj, Array.getElem?_toList, putCells, Array.getElem?_mapIdx, Array.getElem?_eq_getElem (by omega)]; simp [hj]
 · rw [if_neg hj, List.getElem?_eq_none (by omega)]; rfl
theorem flat1P : ∀ l : List Int, (l.map (fun x => [Value.int .i64 x])).flatten = l.map (Value.int .i64)
 | [] => rfl
 | a :: l => by simpa using flat1P l
theorem sort_ownP (base : Nat) (v : Value) (l : List Int) (w : World) (h : OwnS DInt base 3 1 No w v l) (hl : l.length < 4611686018427387904) :
   Calls Tryz.prog 50 #[v, .func (.func 47) #[] #[]] w fun e w' => e = .returned (.tuple #[]) ∧ OwnS DInt base 3 1 No w' v (l.mergeSort fun x y => decide (x ≤ y)) ∧ Evo w w' v v := by
 obtain ⟨css, h1, h2, h3⟩ := h
 have hfl : css.flatten = l.map (Value.int .i64) := by
   have : css = l.map (fun x => [Value.int .i64 x]) := by
     apply List.ext_getElem?; intro i
     by_cases hi : i < l.length
     · obtain ⟨cs, h4, h5, h6⟩ := h3 i hi; rw [h4, List.getElem?_map, List.getElem?_eq_getElem hi]; rw [h6.1]; rfl
     · rw [List.getElem?_eq_none (by omega), List.getElem?_eq_none (by simp; omega)]
   rw [this, flat1P]
 rw [hfl] at h2; rcases h2.2 with ⟨rfl, h0⟩ | ⟨g, cap, cur, rfl, hb, hg, hn, hm, hs, ht⟩
 · have : l = [] := List.eq_nil_of_length_eq_zero h0; subst this; refine (AnyF.slices_SortFunc_none (P := Tryz.prog) (ρ := Tryz.sortL_ren) { Tryz.sortL with } none 0 _ w).mono ?_; rintro e w' ⟨rfl, rfl⟩; exact ⟨rfl, by rw [List.mergeSort_nil]; exact OwnS.nil _ _ _ _ _ _, Evo.refl _ _⟩
 · have hgz := lt_of_block hg; (have hcur : l.length ≤ cur.size := by rw [hs]; omega); rw [Nat.mul_one] at ht
   have hget : ∀ j, (hj : j < l.length) → cur[j]? = some (.int .i64 l[j]) := fun j hj => by
     have h := congrArg (fun x : List Value => x[j]?) ht; simp only [List.getElem?_take, if_pos hj, List.getElem?_map, List.getElem?_eq_getElem hj, Array.getElem?_toList] at h; simpa using h
   have hH : Holds (Value.int .i64) w g 0 l.toArray := fun j hj => by
     (have hj' : j < l.length := by simpa using hj); refine ⟨?_, frozen_of_row w g _ _ _ hg⟩; rw [cell_of_row w g _ _ _ _ hg, Nat.zero_add, hget j hj']; simp [hj']
   have hS := Any.slices_SortFunc_total Tryz.sortL (Value.int .i64) (fun _ => rfl) Lib.compareInt swoCP 47 #[] g 0 cap l.toArray w (enters_of Tryz.func47 (by kernel_rfl) rfl) (cmp_readsP g 0 _ w).lays hH hgz (by simpa using hl) totCP; rw [leCP] at hS; refine hS.mono ?_; rintro e w' ⟨rfl, n, os, rfl⟩; rw [List.toList_toArray]; have hsl : (l.mergeSort fun x y => decide (x ≤ y)).length = l.length := List.length_mergeSort _; have hmem : ∀ x ∈ l.mergeSort fun x y => decide (x ≤ y), x ∈ l := fun x hx => List.mem_mergeSort.1 hx; generalize (l.mergeSort fun x y => decide (x ≤ y)) = s at *; have hsz : (putRow (Value.int .i64) (Sort.ahead w n) g 0 s.toArray).heap.size = w.heap.size := by unfold putRow mapBlock Sort.ahead; simp
   have hh : (sortWorld (Value.int .i64) w g 0 n s.toArray os).heap[g]? = some (.cells (putCells (Value.int .i64) 0 s.toArray cur) 3 (0, 0)) := by
     unfold sortWorld; rw [Sort.heap_grow_old _ _ (by rw [hsz]; exact hgz)]; unfold putRow mapBlock Sort.ahead; simp [Array.getElem?_modify, hg, onCells]
   refine ⟨rfl, ⟨s.map (fun x => [Value.int .i64 x]), by simp, ⟨by rw [flat1P]; simp, .inr ⟨g, cap, putCells (Value.int .i64) 0 s.toArray cur, ?_, hb, hh, by omega, hm, ?_, ?_⟩⟩, fun i hi => ?_⟩, ⟨?_, fun k hk => .inl hk⟩⟩
   · rw [hsl]
   · rw [← hs]; simp [putCells]
   · rw [Nat.mul_one, take_putCellsP s cur (by omega)]; exact (flat1P s).symm
   · refine ⟨[.int .i64 s[i]], by rw [List.getElem?_map, List.getElem?_eq_getElem hi]; rfl, rfl, rfl, ?_⟩; obtain ⟨j, hj, he⟩ := List.getElem_of_mem (hmem _ (List.getElem_mem hi)); rw [← he]; obtain ⟨cs, _, _, h6⟩ := h3 j hj; exact h6.2
   · refine ⟨rfl, rfl, rfl, ?_, fun k hk hne => ?_⟩
     · unfold sortWorld grow; rw [Array.size_append, hsz]; omega
     · unfold sortWorld; rw [Sort.heap_grow_old _ _ (by rw [hsz]; exact hk)]; unfold putRow mapBlock Sort.ahead; have : ¬ g = k := fun e => hne (by rw [e]; rfl); simp [Array.getElem?_modify, this]
theorem eIntP : Elem Tryz.prog 30 3 1 8 (.int .i64 0) := ⟨Tryz.underlying30, info_parts (by kernel_rfl), rfl, by decide⟩
set_option maxHeartbeats 1600000 in
theorem numbers_anyP (m : Msg) (s vf vb : Value) (w : World) (hs : ∃ b, s = .string b) (hvb : ∃ a l c, vb = .slice a l c) (hv : RdS DFld 6 All w vf m.fields) (hz : m.fields.length ≤ 2199023255552) :
   Calls Tryz.prog 23 #[.agg #[s, vf, vb]] w fun e w' => ∃ v', e = .returned v' ∧ OwnS DInt w.heap.size 3 1 No w' v' (numsN m) ∧ Up w w' := by
 obtain ⟨b, rfl⟩ := hs; obtain ⟨x1, x2, x3, rfl⟩ := hvb; obtain ⟨ao, cap, rfl, hc1, hc2⟩ := hv.val; have Hv := hid hv; clear hv
 go_enter Tryz.func23, Tryz.ntmps23
 (go_wp2_with fail); (go_loopw [9, 3] (fun i v wr => ∃ k : Nat, k ≤ m.fields.length ∧ i = .int .i64 k ∧ OwnS DInt w.heap.size 3 1 No wr v ((m.fields.take k).map (·.number)) ∧ Up w wr) (fun i _ _ => m.fields.length - (intOf i).toNat)); case atStart => exact ⟨0, by omega, rfl, OwnS.nil _ _ _ _ _ _, (Up.refl w).alloc _⟩
 case round =>
   obtain ⟨k, hk, rfl, how, hu⟩ := hrel; have How := hid how; clear how
   by_cases hlt : k < m.fields.length
   · obtain ⟨b2, o2, cs, rfl, hb, hl, hcs, hd⟩ := (Hv.out.up stable_fld hu).at hlt; obtain ⟨hd, hx⟩ := hd; subst hd; have c0 := hcs 0 _ rfl; have c1 := hcs 1 _ rfl; have c2 := hcs 2 _ rfl; have c3 := hcs 3 _ rfl; have c4 := hcs 4 _ rfl; have c5 := hcs 5 _ rfl; simp only [Nat.add_zero] at c0; (have k0 : (0 : Int) ≤ (k : Int) := by omega); (have k1 : (k : Int) < (m.fields.length : Int) := by omega); (have hsn : (m.fields.take (k + 1)).map (·.number) = (m.fields.take k).map (·.number) ++ [m.fields[k].number] := by rw [List.take_succ_eq_append_getElem hlt, List.map_append]; rfl); (have hll : ((m.fields.take k).map (·.number)).length + 1 ≤ m.fields.length := by rw [List.length_map, List.length_take]; omega); have Hsn := hid hsn; have Hx := hid hx; have Hu := hid hu; clear hcs hl hsn hx hu; generalize (m.fields.take k).map (·.number) = L at *; generalize m.fields[k] = x at *; obtain ⟨wo, rfl⟩ : ∃ wo : World, wo = wr := ⟨_, rfl⟩
     go_upto_region 5 with (fail)
     have hy := blk_new wo (.cells #[.string ⟨x.name.toArray⟩, .int .i64 x.number, .int .i64 x.kind, .string ⟨x.type.toArray⟩, .bool x.many, .int .i64 x.choice] 40) rfl; have huy := (Up.refl wo).alloc (.cells #[.string ⟨x.name.toArray⟩, .int .i64 x.number, .int .i64 x.kind, .string ⟨x.type.toArray⟩, .bool x.many, .int .i64 x.choice] 40); have Hy := hid hy; have Huy := hid huy; generalize hwy : wo.alloc (.cells #[.string ⟨x.name.toArray⟩, .int .i64 x.number, .int .i64 x.kind, .string ⟨x.type.toArray⟩, .bool x.many, .int .i64 x.choice] 40) = wy at *; have p1 : wy.cell? ⟨wo.heap.size, 1, none⟩ = some (.int .i64 x.number) := cell_of_row wy _ 1 _ _ _ Hy.out; clear hwy hy huy c0 c1 c2 c3 c4 c5; obtain ⟨xs, hxs⟩ := (How.out.up stable_int Huy.out).own; have Hxs := hid hxs; clear hxs; have hwz : w.heap.size ≤ wy.heap.size := Nat.le_trans Hu.out.size Huy.out.size
     go_wp2_with (first
       | (at_builtin; go_must (refine wpList_app1 eIntP _ (by rfl) _ _ (by rfl) w.heap.size _ _ _ (by rfl) Hxs.out _ (by rfl) (by first | rfl | simp) (by rfl) (oc (by rfl)) (by omega) (by unfold maxLen; omega) (by first | omega | (simp; omega)) ?_; intro v3 w3 how3 hev3; have How3 := hid how3; have Hev3 := hid hev3; clear how3 hev3)))
     go_roundw
     case rel =>
       refine ⟨k + 1, by omega, by go_num, ?_, Up.evo (Hu.out.trans Huy.out) Hev3.out (fun j hj => (How.out.lo j hj).1)⟩; rw [Hsn.out]; exact OwnS.snoc stable_int (a := x.number) (How.out.up stable_int Huy.out) Hxs.out How3.out Hev3.out (by rfl) ⟨rfl, Hx.out.1⟩
     case measure => simp [intOf]; omega
   · have hfin : m.fields.take k = m.fields := List.take_of_length_le (by omega); have how := How.out; rw [hfin] at how; obtain ⟨ao2, co2, rfl⟩ := own_val how.own.choose_spec; have hso := sort_ownP _ _ _ wr how (by rw [List.length_map]; omega); simp only [List.length_map] at hso; have Hso := hid hso; clear hso; have hlo := how.lo; simp only [List.length_map] at hlo; have Hlo := hid hlo; clear hlo; clear how How hfin; go_wp2_with fail
     (with_reducible refine Hso.out.mono ?_)
     rintro e w2 ⟨rfl, how2, hev2⟩; go_wp2_with fail
     go_ret
     exact ⟨_, rfl, how2, Up.evo hu hev2 (fun j hj => (Hlo.out j hj).1)⟩
end Go.Proofs.YtbceapeoknngnaaGreatDoor
