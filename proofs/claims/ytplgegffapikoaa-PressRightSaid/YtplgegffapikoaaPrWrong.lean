/-
  press.Wrong, of right programs.
-/
import Derived.Test.YtplgegffapikoaaHowField
import Derived.Test.YtplgegffapikoaaRightPlain
import Derived.Test.YtplgegffapikoaaOwn
import Derived.Test.YtplgegffapikoaaDrew
import Derived.BigQuiet
import Derived.Deep.RegionHeld3
import Derived.Deep.QuietTactic
import Derived.Deep.DeepCutAuto
set_option linter.unusedVariables false
namespace Go.Proofs.Ytplgegffapikoaa
open Go.RowKit
set_option maxRecDepth 100000 in
set_option maxHeartbeats 3200000 in
theorem prwrong_ok (v : Value) (l : List (List Stp)) (w : World) (hv : RdS DPrg 1 All w v l) (h10 : l.length ≤ 10) (hok : ∀ p ∈ l, PrgOk l.length p) :
    Calls Try.prog 30 #[v] w fun e w' => e = .returned (.agg #[.int .i64 0, .int .i64 0]) ∧ Up w w' := by
  obtain ⟨ao, cap, rfl, hc1, hc2⟩ := hv.val
  have Hv := Lib.hid hv; have Hok := Lib.hid hok; clear hv hok
  have hl10 : ¬ (10 < (l.length : Int)) := by omega
  go_enter Try.func30, Try.ntmps30
  go_wp2_with fail
  go_loopw [14] (fun i wr => ∃ k : Nat, k ≤ l.length ∧ i = .int .i64 k ∧ Up w wr ∧ wr.heap[w.heap.size]? = some (.cells #[.int .i64 0, .int .i64 0] 34 (0, 0))) (fun i _ => l.length - (intOf i).toNat)
  case atStart => exact ⟨0, by omega, rfl, (Up.refl w).alloc _, blk_new w _ rfl⟩
  case round =>
    obtain ⟨k, hk, rfl, hu, hb0⟩ := hrel
    have Hb0 := Lib.hid hb0; clear hb0
    by_cases hlt : k < l.length
    · obtain ⟨b, o, cs, rfl, hb, hl, hcs, hd⟩ := (Hv.out.up stable_prg hu).at hlt
      obtain ⟨vp, hd, hp⟩ := hd
      subst hd
      obtain ⟨po, pc, rfl, hp1, hp2⟩ := hp.val
      have c0 := hcs 0 _ rfl
      simp only [Nat.add_zero, Nat.mul_one] at c0
      have k0 : (0 : Int) ≤ (k : Int) := by omega
      have k1 : (k : Int) < (l.length : Int) := by omega
      have hpk := Hok.out _ (List.getElem_mem hlt)
      have Hp := Lib.hid hp; have Hpk := Lib.hid hpk
      clear hcs hl hp hpk
      generalize l[k] = p at *
      have p16 : ¬ (16 < (p.length : Int)) := by have := Hpk.out.1; omega
      obtain ⟨wo, rfl⟩ : ∃ wo : World, wo = wr := ⟨_, rfl⟩
      have Hu := Lib.hid hu; clear hu
      go_wp2_with fail
      go_loopw [26] (fun i wr => ∃ k2 : Nat, k2 ≤ p.length ∧ i = .int .i64 k2 ∧ Up wo wr) (fun i _ => p.length - (intOf i).toNat)
      case atStart => exact ⟨0, by omega, rfl, Up.refl _⟩
      case round =>
        obtain ⟨k2, hk2, rfl, hu2⟩ := hrel
        by_cases hlt2 : k2 < p.length
        · obtain ⟨b2, o2, cs, rfl, hb2, hl, hcs, hd⟩ := (Hp.out.up stable_stp hu2).at hlt2
          obtain ⟨hd, hx⟩ := hd
          subst hd
          have s0 := hcs 0 _ rfl
          have s1 := hcs 1 _ rfl
          have s2 := hcs 2 _ rfl
          have s3 := hcs 3 _ rfl
          have s4 := hcs 4 _ rfl
          simp only [Nat.add_zero] at s0
          have k20 : (0 : Int) ≤ (k2 : Int) := by omega
          have k21 : (k2 : Int) < (p.length : Int) := by omega
          obtain ⟨⟨q1, q2⟩, ⟨q3, q4⟩, ⟨q5, q6⟩, q7, q8, q9, q10⟩ := Hpk.out.2.1 _ (List.getElem_mem hlt2)
          have hpr : ¬ (0 < (k2 : Int)) ∨ ((0 : Int) < (k2 : Int) ∧ ∃ n', wr.cell? ⟨b2, o2 + (k2 - 1) * 5 + 1, none⟩ = some (.int .i64 n') ∧ n' < p[k2].number) := by
            by_cases hz : 0 < k2
            · obtain ⟨j, rfl⟩ : ∃ j, k2 = j + 1 := ⟨k2 - 1, by omega⟩
              obtain ⟨b3, o3, cs, he, _, _, hcs, hd⟩ := (Hp.out.up stable_stp hu2).at (i := j) (by omega)
              simp only [Option.some.injEq, Addr.mk.injEq, and_true] at he
              obtain ⟨rfl, rfl⟩ := he
              obtain ⟨hd, _⟩ := hd
              subst hd
              exact .inr ⟨by omega, _, hcs 1 _ rfl, Hpk.out.2.2 j hlt2⟩
            · exact .inl (by omega)
          have kz : ((k2 : Int) - 1).toNat = k2 - 1 := by omega
          clear hcs hl hx
          generalize p[k2] = st at *
          obtain ⟨kd, nm, hw, fd, nx⟩ := st
          simp only at s0 s1 s2 s3 s4 q1 q2 q3 q4 q5 q6 q7 q8 q9 q10 hpr
          subst q7
          obtain ⟨wi, rfl⟩ : ∃ wi : World, wi = wr := ⟨_, rfl⟩
          have f1 : ¬ (fd < 1) := by omega
          have f2 : ¬ (10 < fd) := by omega
          have n1 : ¬ (nm < 1) := by omega
          have n2 : ¬ (536870912 ≤ nm) := by omega
          have Hu2 := Lib.hid hu2
          have hkd : (kd = 1 ∧ (howN fd == 2) = false ∧ (fd == 10) = false ∧ nx = -1) ∨ (kd = 2 ∧ (howN fd == 2) = false ∧ (fd == 10) = false ∧ nx = -1) ∨ (kd = 3 ∧ (howN fd == 2) = true ∧ (fd == 10) = false ∧ nx = -1) ∨ (kd = 4 ∧ (howN fd == 2) = true ∧ (fd == 10) = true ∧ ¬ (nx < 0) ∧ ¬ ((l.length : Int) ≤ nx)) := by
            have h4 : kd = 1 ∨ kd = 2 ∨ kd = 3 ∨ kd = 4 := by omega
            rcases h4 with rfl | rfl | rfl | rfl
            · exact .inl ⟨rfl, by simpa using q8, by simpa using q9, by simpa using q10⟩
            · exact .inr (.inl ⟨rfl, by simpa using q8, by simpa using q9, by simpa using q10⟩)
            · exact .inr (.inr (.inl ⟨rfl, by simpa using q8, by simpa using q9, by simpa using q10⟩))
            · have q11 : 0 ≤ nx ∧ nx < (l.length : Int) := by simpa using q10
              exact .inr (.inr (.inr ⟨rfl, by simpa using q8, by simpa using q9, by omega, by omega⟩))
          clear q1 q2 q3 q4 q5 q6 q8 q9 q10 hu2
          go_upto_region 11 with (fail)
          have hy := blk_new wi (.cells #[.int .i64 kd, .int .i64 nm, .int .i64 (howN fd), .int .i64 fd, .int .i64 nx] 72) rfl
          have huy := (Up.refl wi).alloc (.cells #[.int .i64 kd, .int .i64 nm, .int .i64 (howN fd), .int .i64 fd, .int .i64 nx] 72)
          have hpy : ¬ (0 < (k2 : Int)) ∨ ((0 : Int) < (k2 : Int) ∧ ∃ n', (wi.alloc (.cells #[.int .i64 kd, .int .i64 nm, .int .i64 (howN fd), .int .i64 fd, .int .i64 nx] 72)).cell? ⟨b2, o2 + (k2 - 1) * 5 + 1, none⟩ = some (.int .i64 n') ∧ n' < nm) := hpr.imp id (fun ⟨h, n', hc, hn⟩ => ⟨h, n', huy.cell_some hc, hn⟩)
          have Huy := Lib.hid (Hu2.out.trans huy)
          generalize wi.alloc (.cells #[.int .i64 kd, .int .i64 nm, .int .i64 (howN fd), .int .i64 fd, .int .i64 nx] 72) = wy at *
          have y0 : wy.cell? ⟨wi.heap.size, 0, none⟩ = some (.int .i64 kd) := cell_of_row wy _ 0 _ _ _ hy
          have y1 : wy.cell? ⟨wi.heap.size, 1, none⟩ = some (.int .i64 nm) := cell_of_row wy _ 1 _ _ _ hy
          have y2 : wy.cell? ⟨wi.heap.size, 2, none⟩ = some (.int .i64 (howN fd)) := cell_of_row wy _ 2 _ _ _ hy
          have y3 : wy.cell? ⟨wi.heap.size, 3, none⟩ = some (.int .i64 fd) := cell_of_row wy _ 3 _ _ _ hy
          have y4 : wy.cell? ⟨wi.heap.size, 4, none⟩ = some (.int .i64 nx) := cell_of_row wy _ 4 _ _ _ hy
          clear hpr hy huy s0 s1 s2 s3 s4 c0
          rcases hkd with ⟨rfl, g1, g2, rfl⟩ | ⟨rfl, g1, g2, rfl⟩ | ⟨rfl, g1, g2, rfl⟩ | ⟨rfl, g1, g2, g3, g4⟩
          all_goals
            go_upto_region 14 with (fail)
            go_cut [50] (fun v wc => v = .bool false ∧ ∃ n, wc = wy.drewN n)
            case first =>
              have d1 : decide (nm < 1) = false := decide_eq_false n1
              have d2 : decide (536870912 ≤ nm) = false := decide_eq_false n2
              rcases hpy with hz | ⟨hz, n', hn1, hn2⟩
              · have dz : decide ((0 : Int) < (k2 : Int)) = false := decide_eq_false hz
                have dzn : decide (0 < k2) = false := decide_eq_false (by omega)
                go_quiet (fail)
                go_wp2_with fail
                go_meet
                exact ⟨rfl, _, rfl⟩
              · have kz0 : 0 ≤ (k2 : Int) - 1 := by omega
                have kz1 : (k2 : Int) - 1 < p.length := by omega
                have dz : decide ((0 : Int) < (k2 : Int)) = true := decide_eq_true hz
                have dzn : decide (0 < k2) = true := decide_eq_true (by omega)
                have kz2 : decide (nm ≤ n') = false := decide_eq_false (by omega)
                go_quiet (fail)
                go_wp2_with fail
                go_meet
                exact ⟨rfl, _, rfl⟩
            case rest =>
              obtain ⟨rfl, n9, rfl⟩ := hcut
              have x0 : (wy.drewN n9).cell? ⟨wi.heap.size, 0, none⟩ = _ := y0
              have x2 : (wy.drewN n9).cell? ⟨wi.heap.size, 2, none⟩ = _ := y2
              have x3 : (wy.drewN n9).cell? ⟨wi.heap.size, 3, none⟩ = _ := y3
              have x4 : (wy.drewN n9).cell? ⟨wi.heap.size, 4, none⟩ = _ := y4
              have Huz := Lib.hid (Huy.out.drewN n9)
              clear hpy y0 y1 y2 y3 y4 Huy
              generalize wy.drewN n9 = wz at *
              go_wp2_with fail
              go_cut [74] (fun v wc => v = .bool false ∧ ∃ n, wc = wz.drewN n)
              case first =>
                go_quiet ((go_at_call 35; exact Calls.quiet_of_same (how_any _ _)))
                go_wp2_with fail
                go_meet
                exact ⟨rfl, _, rfl⟩
              case rest =>
                obtain ⟨rfl, n8, rfl⟩ := hcut
                have z0 : (wz.drewN n8).cell? ⟨wi.heap.size, 0, none⟩ = _ := x0
                have z4 : (wz.drewN n8).cell? ⟨wi.heap.size, 4, none⟩ = _ := x4
                clear x0 x2 x3 x4
                have Hux := Lib.hid (Huz.out.drewN n8)
                generalize wz.drewN n8 = wx at *
                go_wp2_with fail
                go_roundw
                case rel => exact ⟨k2 + 1, by omega, by go_num, Hux.out⟩
                case measure => simp [intOf]; omega
        · go_wp2_with fail
          go_roundw
          case rel => exact ⟨k + 1, by omega, by go_num, Hu.out.trans hu2, hu2.blk Hb0.out⟩
          case measure => simp [intOf]; omega
    · have r0 : wr.cell? ⟨w.heap.size, 0, none⟩ = some (.int .i64 0) := cell_of_row wr _ 0 _ _ _ Hb0.out
      have r1 : wr.cell? ⟨w.heap.size, 1, none⟩ = some (.int .i64 0) := cell_of_row wr _ 1 _ _ _ Hb0.out
      have rf' : ∀ o, wr.frozen? ⟨w.heap.size, o, none⟩ = false := fun o => frozen_of_row wr _ o _ _ Hb0.out
      have rz : w.heap.size < wr.heap.size := lt_of_block Hb0.out
      go_wp2_with fail
      refine bodyPost_ret (v := .agg #[.int .i64 0, .int .i64 0]) (by simp [results, Try.results30, go_sem, r0, r1, rz]) rfl ?_
      refine ⟨rfl, ?_⟩
      repeat (first | (with_reducible refine Up.setCell ?_ ?_ _) | (with_reducible refine Up.alloc ?_ _) | (with_reducible refine Up.drew ?_))
      · exact hu
      all_goals (simp only; omega)
end Go.Proofs.Ytplgegffapikoaa
