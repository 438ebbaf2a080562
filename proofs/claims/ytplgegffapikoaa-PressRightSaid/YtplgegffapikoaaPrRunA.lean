/-
  press.run, of the program and the body in presslaw6.alive.
-/
import Derived.Test.YtplgegffapikoaaPrRun
import Derived.Deep.DeepCutAuto
import Derived.Deep.RegionHeld3
set_option linter.unusedVariables false
namespace Go.Proofs.Ytplgegffapikoaa
open Go.RowKit
def aliveP : List Stp := [⟨2, 1, 0, 2, -1⟩, ⟨4, 2, 2, 10, 0⟩]
def aliveD (k : Nat) : List UInt8 := ([1, 2].take k).flatMap (fun x : Nat => Lib.uvarint (Lib.zigzag x))
theorem pralive_bytes : [] ++ tagB (Int.toNat 1) 2 ++ Lib.uvarint (aliveD 2).length ++ aliveD 2 = [10, 2, 2, 4] := by
  simp [aliveD, tagB, Lib.uvarint_small, Lib.zigzag]
theorem Evo.cell_some' {w w' : World} {v' : Value} (h : Evo w w' (.slice none 0 0) v') {a : Addr} {u : Value} (hc : w.cell? a = some u) : w'.cell? a = some u := ((Up.refl w).evo h (fun j hj => by cases hj)).cell_some hc
set_option maxRecDepth 100000 in
set_option maxHeartbeats 3200000 in
theorem run_alive (M X : Nat) (vl vv vb : Value) (w : World) (hM0 : w.cell? ⟨M, 0, none⟩ = some vl) (hM1 : w.cell? ⟨M, 1, none⟩ = some (.int .i64 0)) (hX0 : w.cell? ⟨X, 0, none⟩ = some vv) (hX1 : w.cell? ⟨X, 1, none⟩ = some (.slice none 0 0))
    (hl : RdS DPrg 1 All w vl [aliveP]) (hvb : RdS DU64 1 All w vb [1, 2]) (hvv : RdS DVal4 4 All w vv [(1, vb, .slice none 0 0, .slice none 0 0)]) :
    Calls Try.prog 60 #[.pointer (some ⟨M, 0, none⟩), .int .i64 0, .pointer (some ⟨X, 0, none⟩), .int .i64 1] w fun e w' => ∃ v', e = .returned v' ∧ RdB All w' v' [10, 2, 2, 4] ∧ Up w w' := by
  obtain ⟨lo, lc, rfl, hl1, hl2⟩ := hl.val
  obtain ⟨b, o, cs, rfl, hb, _, hcs, hd⟩ := hl.at (i := 0) (by decide)
  obtain ⟨vp, hd, hp⟩ := hd
  subst hd
  have l0 := hcs 0 _ rfl
  simp only [Nat.add_zero, Nat.zero_mul] at l0
  change RdS DStp 5 All w vp aliveP at hp
  obtain ⟨po, pc, rfl, hp1, hp2⟩ := hp.val
  obtain ⟨b2, o2, cs, rfl, hb2, _, hcs0, hd⟩ := hp.at (i := 0) (by decide)
  obtain ⟨hd, _⟩ := hd
  subst hd
  obtain ⟨b3, o3, cs, he, hb3, _, hcs1, hd⟩ := hp.at (i := 1) (by decide)
  simp only [Option.some.injEq, Addr.mk.injEq, and_true] at he
  obtain ⟨rfl, rfl⟩ := he
  obtain ⟨hd, _⟩ := hd
  subst hd
  have s0 : w.cell? ⟨b2, o2, none⟩ = some (.int .i64 2) := by have h := hcs0 0 _ rfl; simpa [aliveP] using h
  have s1 : w.cell? ⟨b2, o2 + 1, none⟩ = some (.int .i64 1) := by have h := hcs0 1 _ rfl; simpa [aliveP] using h
  have s2 : w.cell? ⟨b2, o2 + 2, none⟩ = some (.int .i64 0) := by have h := hcs0 2 _ rfl; simpa [aliveP] using h
  have s3 : w.cell? ⟨b2, o2 + 3, none⟩ = some (.int .i64 2) := by have h := hcs0 3 _ rfl; simpa [aliveP] using h
  have u1 : w.cell? ⟨b2, o2 + 5 + 1, none⟩ = some (.int .i64 2) := by have h := hcs1 1 _ rfl; simpa [aliveP] using h
  clear hcs hcs0 hcs1 hl1 hp1
  obtain ⟨vo, vc, rfl, _, _⟩ := hvv.val
  obtain ⟨bo, bc, rfl, hbc1, hbc2⟩ := hvb.val
  have Hvb := Lib.hid hvb
  have hg1 := fun wx (u : Up w wx) => get_b _ (.slice none 0 0) _ 1 wx (hvv.up stable_val4 u) ⟨_, _, _, rfl⟩
  have hg2 := fun wx (u : Up w wx) => get_b _ (.slice none 0 0) _ 2 wx (hvv.up stable_val4 u) ⟨_, _, _, rfl⟩
  change ∀ wx, Up w wx → Calls Try.prog 86 #[.agg #[.slice vo 1 vc, .slice none 0 0], .int .i64 1] wx fun e w' => e = .returned (.tuple #[.agg #[.int .i64 1, .slice bo 2 bc, .slice none 0 0, .slice none 0 0], .bool true]) ∧ Up wx w' at hg1
  change ∀ wx, Up w wx → Calls Try.prog 86 #[.agg #[.slice vo 1 vc, .slice none 0 0], .int .i64 2] wx fun e w' => e = .returned (.tuple #[.agg #[.int .i64 0, .slice none 0 0, .slice none 0 0, .slice none 0 0], .bool false]) ∧ Up wx w' at hg2
  change w.cell? ⟨M, 0, none⟩ = some (.slice (some ⟨b, o, none⟩) 1 lc) at hM0
  change w.cell? ⟨X, 0, none⟩ = some (.slice vo 1 vc) at hX0
  change w.cell? ⟨b, o, none⟩ = some (.slice (some ⟨b2, o2, none⟩) 2 pc) at l0
  have Hg1 := Lib.hid hg1; have Hg2 := Lib.hid hg2
  clear hg1 hg2 hvv hl hp hvb
  go_enter Try.func60, Try.ntmps60
  go_wp2_with fail
  go_loopw [38, 9] (fun i v wr => ∃ k : Nat, k ≤ 2 ∧ i = .int .i64 k ∧ ((k = 0 ∧ v = .slice none 0 0) ∨ (0 < k ∧ wr.ownsRow w.heap.size 5 1 v 4 (B8 [10, 2, 2, 4]))) ∧ Up w wr) (fun i _ _ => 2 - (intOf i).toNat)
  case atStart => exact ⟨0, by omega, rfl, .inl ⟨rfl, rfl⟩, Up.refl _⟩
  case round =>
    obtain ⟨k, hk, rfl, hv, hu⟩ := hrel
    have hM0 := hu.cell_some hM0
    have hM1 := hu.cell_some hM1
    have hX0 := hu.cell_some hX0
    have hX1 := hu.cell_some hX1
    have l0 := hu.cell_some l0
    have s0 := hu.cell_some s0
    have s1 := hu.cell_some s1
    have s2 := hu.cell_some s2
    have s3 := hu.cell_some s3
    have u1 := hu.cell_some u1
    have hkk : k = 0 ∨ k = 1 ∨ k = 2 := by omega
    rcases hkk with rfl | rfl | rfl
    · rcases hv with ⟨_, rfl⟩ | ⟨h, _⟩
      · --[
        have i1 : (0 : Int) < 2 := by omega
        have Hu := Lib.hid hu
        clear hu
        obtain ⟨wo, rfl⟩ : ∃ wo : World, wo = wr := ⟨_, rfl⟩
        go_upto_region 9 with (fail)
        have dX0 : wo.drew.cell? ⟨X, 0, none⟩ = some (.slice vo 1 vc) := hX0
        have dX1 : wo.drew.cell? ⟨X, 1, none⟩ = some (.slice none 0 0) := hX1
        have d1 : wo.drew.cell? ⟨b2, o2 + 1, none⟩ = some (.int .i64 1) := s1
        have nX : wo.heap.size ≠ X := World.new_ne wo ⟨X, 0, none⟩ hX0
        have nb : wo.heap.size ≠ b2 := World.new_ne wo ⟨b2, _, none⟩ s1
        go_cut [12, 13] (fun v v' wc => ∃ B, v = .pointer (some ⟨B, 0, none⟩) ∧ v' = .bool true ∧ wo.heap.size ≤ B ∧ wc.heap[B]? = some (.cells #[.int .i64 1, .slice bo 2 bc, .slice none 0 0, .slice none 0 0] 121 (0, 0)) ∧ Up wo wc)
        case first =>
          go_region_held3 (fun w' => w'.cell? ⟨X, 0, none⟩ = some (.slice vo 1 vc) ∧ w'.cell? ⟨X, 1, none⟩ = some (.slice none 0 0) ∧ w'.cell? ⟨b2, o2 + 1, none⟩ = some (.int .i64 1))
            (first | with_reducible exact ⟨dX0, dX1, d1⟩ | with_reducible exact hkn | with_reducible exact ⟨((Up.refl wo).alloc _).drew.cell_some hX0, ((Up.refl wo).alloc _).drew.cell_some hX1, ((Up.refl wo).alloc _).drew.cell_some s1⟩ | with_reducible exact ⟨(hu4.alloc _).cell_some hX0, (hu4.alloc _).cell_some hX1, (hu4.alloc _).cell_some s1⟩ | go_keep)
            (first
              | (go_at_call 86; refine (Hg1.out _ (by first | with_reducible exact Hu.out.drew | with_reducible exact (Hu.out.alloc _).drew)).mono ?_; rintro e w4 ⟨rfl, hu4'⟩; first | (have hu4 : Up wo w4 := (by with_reducible exact (Up.drew (Up.refl wo)).trans hu4'); have hkn : w4.cell? ⟨X, 0, none⟩ = some (.slice vo 1 vc) ∧ w4.cell? ⟨X, 1, none⟩ = some (.slice none 0 0) ∧ w4.cell? ⟨b2, o2 + 1, none⟩ = some (.int .i64 1) := ⟨hu4.cell_some hX0, hu4.cell_some hX1, hu4.cell_some s1⟩) | (have hu4 : Up wo w4 := (by with_reducible exact (((Up.refl wo).alloc (.cells #[.int .i64 0, .slice none 0 0, .slice none 0 0, .slice none 0 0] 121)).drew).trans hu4'); have hb4 : w4.heap[wo.heap.size]? = some (.cells #[.int .i64 0, .slice none 0 0, .slice none 0 0, .slice none 0 0] 121 (0, 0)) := hu4'.blk (blk_new wo _ rfl); have t0 := cell_of_row w4 _ 0 _ _ _ hb4; have t1 := cell_of_row w4 _ 1 _ _ _ hb4; have t2 := cell_of_row w4 _ 2 _ _ _ hb4; have t3 := cell_of_row w4 _ 3 _ _ _ hb4; have tf : ∀ o, w4.frozen? ⟨wo.heap.size, o, none⟩ = false := (fun o => frozen_of_row w4 _ o _ _ hb4); have tz : wo.heap.size < w4.heap.size := lt_of_block hb4; have Hb4 := Lib.hid hb4; clear hb4; have hkn : w4.cell? ⟨X, 0, none⟩ = some (.slice vo 1 vc) ∧ w4.cell? ⟨X, 1, none⟩ = some (.slice none 0 0) ∧ w4.cell? ⟨b2, o2 + 1, none⟩ = some (.int .i64 1) := ⟨hu4.cell_some hX0, hu4.cell_some hX1, hu4.cell_some s1⟩)))
          all_goals
            go_wp2_with fail
            go_meet
            first
              | (refine ⟨w4.heap.size, rfl, rfl, hu4.size, ?_, ?_⟩; (with_reducible exact blk_new w4 _ rfl); (with_reducible exact hu4.alloc _))
              | (refine ⟨wo.heap.size, rfl, rfl, Nat.le_refl _, ?_, ?_⟩; (exact heap_setCell_same _ _ 3 _ _ _ (heap_setCell_same _ _ 2 _ _ _ (heap_setCell_same _ _ 1 _ _ _ (heap_setCell_same _ _ 0 _ _ _ Hb4.out)))); (with_reducible exact Up.setCell (Up.setCell (Up.setCell (Up.setCell hu4 (Nat.le_refl _) _) (Nat.le_refl _) _) (Nat.le_refl _) _) (Nat.le_refl _) _))
        case rest =>
          obtain ⟨B, rfl, rfl, hB, hbk, huc⟩ := hcut
          have v1 : wc.cell? ⟨B, 1, none⟩ = some (.slice bo 2 bc) := cell_of_row wc _ 1 _ _ _ hbk
          have hM1 := huc.cell_some hM1
          have s0 := huc.cell_some s0
          have s1 := huc.cell_some s1
          have s2 := huc.cell_some s2
          have s3 := huc.cell_some s3
          have Hux := Lib.hid (Hu.out.trans huc)
          clear hbk huc dX0 dX1 d1 nX nb hX0 hX1 u1 l0 hM0
          go_wp2_with fail
          go_loopw [95, 16] (fun i v wr => ∃ k : Nat, k ≤ 2 ∧ i = .int .i64 k ∧ wr.ownsRow wc.heap.size 5 1 v (aliveD k).length (B8 (aliveD k)) ∧ Up wc wr) (fun i _ _ => 2 - (intOf i).toNat)
          case atStart => exact ⟨0, by omega, rfl, World.ownsRow_nil _ _ _ _, Up.refl _⟩
          case round =>
            obtain ⟨k, hk, rfl, how, hu3⟩ := hrel
            have How := Lib.hid how; clear how
            by_cases hlt : k < 2
            · obtain ⟨b4, o4, cs, rfl, hb4, _, hcs, hd⟩ := (Hvb.out.up stable_u64 (Hux.out.trans hu3)).at (i := k) (by simpa using hlt)
              obtain ⟨hd, hx⟩ := hd
              subst hd
              have n0 := hcs 0 _ rfl
              simp only [Nat.add_zero, Nat.mul_one] at n0
              have k0 : (0 : Int) ≤ (k : Int) := by omega
              have k1 : (k : Int) < 2 := by omega
              have hxx : [1, 2][k] < 9223372036854775808 := by
                have : k = 0 ∨ k = 1 := by omega
                rcases this with rfl | rfl <;> simp
              have hdn : aliveD (k + 1) = aliveD k ++ Lib.uvarint (Lib.zigzag (([1, 2][k] : Nat) : Int)) := by
                have : k = 0 ∨ k = 1 := by omega
                rcases this with rfl | rfl <;> simp [aliveD]
              have hle : (aliveD k).length ≤ 1099511627776 := by
                have : k = 0 ∨ k = 1 := by omega
                rcases this with rfl | rfl <;> simp [aliveD, Lib.uvarint_small, Lib.zigzag]
              have Hdn := Lib.hid hdn
              clear hcs hdn hx
              generalize ([1, 2][k] : Nat) = x at *
              have q2 := hu3.cell_some s2
              have q3 := hu3.cell_some s3
              have Hnum := Lib.hid (num_zig wc.heap.size _ _ x b2 o2 wr hxx hle q2 q3 How.out hu3.size)
              generalize aliveD k = D at *
              go_wp2_with fail
              (with_reducible refine Hnum.out.mono ?_)
              rintro e w5 ⟨v5, rfl, how5, hev5⟩
              have How5 := Lib.hid how5
              clear how5
              go_wp2_with fail
              go_roundw
              case rel =>
                refine ⟨k + 1, by omega, by go_num, ?_, Up.evo hu3 hev5 (fun j hj => (How.out.lt j hj).1)⟩
                rw [Hdn.out]
                exact How5.out
              case measure => simp [intOf]; omega
            · obtain rfl : k = 2 := by omega
              obtain ⟨a6, c6, rfl⟩ := own_val How.out
              have q1 := hu3.cell_some s1
              have hdl : (aliveD 2).length ≤ 4000 := by simp [aliveD, Lib.uvarint_small, Lib.zigzag]
              have hbl := blob_own w.heap.size (.slice none 0 0) [] (aliveD 2) _ 1 b2 o2 wr (by decide) (by decide) (by simp) hdl q1 (rdB_of_owns How.out (fun j _ e => by cases e)) (World.ownsRow_nil _ _ _ _) (Nat.le_trans Hux.out.size hu3.size)
              rw [pralive_bytes] at hbl
              have Hbl := Lib.hid hbl
              have hM1 := hu3.cell_some hM1
              clear hbl
              generalize (aliveD 2).length = dl at *
              go_wp2_with fail
              (with_reducible refine Hbl.out.mono ?_)
              rintro e w5 ⟨v5, rfl, how5, hev5⟩
              have hM1 := hev5.cell_some' hM1
              have How5 := Lib.hid how5
              clear how5
              go_wp2_with fail
              go_roundw
              case rel => exact ⟨1, by omega, by go_num, .inr ⟨by omega, How5.out⟩, (Hux.out.trans hu3).trans ((Up.refl wr).evo hev5 (fun j hj => by cases hj))⟩
              case measure => simp [intOf]
        --]
      · omega
    · --[
      rcases hv with ⟨h, _⟩ | ⟨_, how⟩
      · omega
      have i1 : (1 : Int) < 2 := by omega
      have Hu := Lib.hid hu
      have How := Lib.hid how
      clear hu how
      obtain ⟨wo, rfl⟩ : ∃ wo : World, wo = wr := ⟨_, rfl⟩
      go_upto_region 9 with (fail)
      have dX0 : wo.drew.cell? ⟨X, 0, none⟩ = some (.slice vo 1 vc) := hX0
      have dX1 : wo.drew.cell? ⟨X, 1, none⟩ = some (.slice none 0 0) := hX1
      have d1 : wo.drew.cell? ⟨b2, o2 + 5 + 1, none⟩ = some (.int .i64 2) := u1
      have nX : wo.heap.size ≠ X := World.new_ne wo ⟨X, 0, none⟩ hX0
      have nb : wo.heap.size ≠ b2 := World.new_ne wo ⟨b2, _, none⟩ s1
      go_cut [13] (fun v' wc => v' = .bool false ∧ Up wo wc)
      case first =>
        go_region_held3 (fun w' => w'.cell? ⟨X, 0, none⟩ = some (.slice vo 1 vc) ∧ w'.cell? ⟨X, 1, none⟩ = some (.slice none 0 0) ∧ w'.cell? ⟨b2, o2 + 5 + 1, none⟩ = some (.int .i64 2))
          (first | with_reducible exact ⟨dX0, dX1, d1⟩ | with_reducible exact hkn | with_reducible exact ⟨((Up.refl wo).alloc _).drew.cell_some hX0, ((Up.refl wo).alloc _).drew.cell_some hX1, ((Up.refl wo).alloc _).drew.cell_some u1⟩ | with_reducible exact ⟨(hu4.alloc _).cell_some hX0, (hu4.alloc _).cell_some hX1, (hu4.alloc _).cell_some u1⟩ | go_keep)
          (first
            | (go_at_call 86; refine (Hg2.out _ (by first | with_reducible exact Hu.out.drew | with_reducible exact (Hu.out.alloc _).drew)).mono ?_; rintro e w4 ⟨rfl, hu4'⟩; first | (have hu4 : Up wo w4 := (by with_reducible exact (Up.drew (Up.refl wo)).trans hu4'); have hkn : w4.cell? ⟨X, 0, none⟩ = some (.slice vo 1 vc) ∧ w4.cell? ⟨X, 1, none⟩ = some (.slice none 0 0) ∧ w4.cell? ⟨b2, o2 + 5 + 1, none⟩ = some (.int .i64 2) := ⟨hu4.cell_some hX0, hu4.cell_some hX1, hu4.cell_some u1⟩) | (have hu4 : Up wo w4 := (by with_reducible exact (((Up.refl wo).alloc (.cells #[.int .i64 0, .slice none 0 0, .slice none 0 0, .slice none 0 0] 121)).drew).trans hu4'); have hb4 : w4.heap[wo.heap.size]? = some (.cells #[.int .i64 0, .slice none 0 0, .slice none 0 0, .slice none 0 0] 121 (0, 0)) := hu4'.blk (blk_new wo _ rfl); have t0 := cell_of_row w4 _ 0 _ _ _ hb4; have t1 := cell_of_row w4 _ 1 _ _ _ hb4; have t2 := cell_of_row w4 _ 2 _ _ _ hb4; have t3 := cell_of_row w4 _ 3 _ _ _ hb4; have tf : ∀ o, w4.frozen? ⟨wo.heap.size, o, none⟩ = false := (fun o => frozen_of_row w4 _ o _ _ hb4); have tz : wo.heap.size < w4.heap.size := lt_of_block hb4; have Hb4 := Lib.hid hb4; clear hb4; have hkn : w4.cell? ⟨X, 0, none⟩ = some (.slice vo 1 vc) ∧ w4.cell? ⟨X, 1, none⟩ = some (.slice none 0 0) ∧ w4.cell? ⟨b2, o2 + 5 + 1, none⟩ = some (.int .i64 2) := ⟨hu4.cell_some hX0, hu4.cell_some hX1, hu4.cell_some u1⟩)))
        all_goals
          go_wp2_with fail
          go_meet
          first
            | (refine ⟨rfl, ?_⟩; (with_reducible exact hu4.alloc _))
            | (refine ⟨rfl, ?_⟩; (with_reducible exact Up.setCell (Up.setCell (Up.setCell (Up.setCell hu4 (Nat.le_refl _) _) (Nat.le_refl _) _) (Nat.le_refl _) _) (Nat.le_refl _) _))
      case rest =>
        obtain ⟨rfl, huc⟩ := hcut
        go_wp2_with fail
        go_roundw
        case rel => exact ⟨2, by omega, by go_num, .inr ⟨by omega, How.out.kept huc.to_none (by cases hv : Value.ownBlock _ <;> simp)⟩, Hu.out.trans huc⟩
        case measure => simp [intOf]
      --]
    · rcases hv with ⟨h, _⟩ | ⟨_, how⟩
      · omega
      · --[
        obtain ⟨a5, c5, rfl⟩ := own_val how
        have How := Lib.hid how; have Hu := Lib.hid hu
        clear how hu
        obtain ⟨wo, rfl⟩ : ∃ wo : World, wo = wr := ⟨_, rfl⟩
        go_wp2_with fail
        go_loopw [157, 9] (fun i v wr => i = .int .i64 0 ∧ v = .slice a5 4 c5 ∧ wr = wo) (fun _ _ _ => 0)
        case atStart => exact ⟨rfl, rfl, rfl⟩
        case round =>
          obtain ⟨rfl, rfl, rfl⟩ := hrel
          go_wp2_with fail
          go_ret
          exact ⟨_, rfl, rdB_of_owns How.out (fun _ _ => trivial), Hu.out⟩
        --]
end Go.Proofs.Ytplgegffapikoaa
