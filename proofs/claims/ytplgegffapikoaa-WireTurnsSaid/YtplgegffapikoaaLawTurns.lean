/-
  presslaw1.WireTurns.
-/
import Derived.Test.YtplgegffapikoaaLawKit
set_option linter.unusedVariables false
namespace Go.Proofs.Ytplgegffapikoaa
open Go.RowKit

set_option maxRecDepth 100000 in
set_option maxHeartbeats 1600000 in
theorem turns_any (vl vb : Value) (l : List Rec) (b : List UInt8) (w : World) (hl : RdS DRec 4 All w vl l) (hb : RdB All w vb b) :
    Calls Try.prog 4 #[vl, vb] w fun e w' => e = .returned (.bool true) ∧ Up w w' := by
  obtain ⟨ao, cap, rfl, hc1, hc2⟩ := hl.val
  obtain ⟨bo, bap, rfl, hd1, hd2⟩ := hb.val
  have H1 := Lib.hid (fun h => bytes_parse (l := l) h (rec_bits hl))
  have Hl := Lib.hid hl; clear hl
  have Hb := Lib.hid hb; clear hb
  go_enter Try.func4, Try.ntmps4
  go_wp2_with fail
  refine (alive_any _).mono ?_
  rintro e w1 ⟨rfl, hu1⟩
  have Hu1 := Lib.hid hu1; clear hu1
  go_wp2_with fail
  refine (bytes_law _ l w1 (Hl.out.up stable_rec Hu1.out)).mono ?_
  rintro e w2 ⟨a2, c2, rfl, hr2, hu2⟩
  have Hu2 := Lib.hid (Hu1.out.trans hu2); clear hu2
  have Hr2 := Lib.hid hr2; clear hr2
  have h12 : (bytesP l).2.1 = 0 ∨ ¬ (bytesP l).2.1 = 0 := Decidable.em _
  cases h12
  case' inl h1 =>
    have h1' : ((bytesP l).2.1 == 0) = true := by simp [h1]
    go_wp2_with fail
    have hp := parse_law _ _ _ (Hr2.out.up stable_u8 (Up.alloc (Up.refl w2) (.cells #[.int .i64 0, .int .i64 ((bytesP l).2.2 : Int)] 34)))
    rw [H1.out h1] at hp
    have Hp := Lib.hid hp; clear hp
    refine Hp.out.mono ?_
    rintro e w3 ⟨a3, c3, rfl, hr3, hu3⟩
    have Hu3 := Lib.hid ((Hu2.out.alloc (.cells #[.int .i64 0, .int .i64 ((bytesP l).2.2 : Int)] 34)).trans hu3); clear hu3
    have Hr3 := Lib.hid hr3; clear hr3
    clear Hp Hr2
    go_wp2_with (first
      | (go_at_call 17; go_must (refine (same_law _ _ l l _ rfl (Hr3.out.up stable_rec (Up.alloc (Up.refl w3) _)) ((Hl.out.up stable_rec Hu3.out).up stable_rec (Up.alloc (Up.refl w3) _))).mono ?_; rintro e w4 ⟨rfl, hu4⟩; have Hu4 := Lib.hid ((Hu3.out.alloc (.cells #[.int .i64 0, .int .i64 0] 34)).trans hu4); clear hu4 Hr3)))
  case' inr h1 =>
    have h1' : ((bytesP l).2.1 == 0) = false := by simp [h1]
    go_wp2_with fail
    have Hu4 := Lib.hid (Hu2.out.alloc (.cells #[.int .i64 (bytesP l).2.1, .int .i64 ((bytesP l).2.2 : Int)] 34))
    generalize w2.alloc (.cells #[.int .i64 (bytesP l).2.1, .int .i64 ((bytesP l).2.2 : Int)] 34) = w4 at *
  all_goals
    clear h1 h1'
    refine (parse_law _ b _ (Hb.out.up stable_u8 Hu4.out)).mono ?_
    rintro e w5 ⟨a5, c5, rfl, hr5, hu5⟩
    have Hu5 := Lib.hid (Hu4.out.trans hu5); clear hu5
    have Hr5 := Lib.hid hr5; clear hr5
    have P1 := Lib.hid (@parse_bytes b)
    have P2 := Lib.hid (@parse_err b)
    have h12 : (parse b).2.1 = 0 ∨ ¬ (parse b).2.1 = 0 := Decidable.em _
    generalize hq : parse b = q at *
    obtain ⟨ql, qe, qa⟩ := q
    simp only at *
    clear hq
    cases h12
    case inr h2 =>
      have h2' : (qe != 0) = true := by simp [h2]
      have P3 := P2.out h2
      subst P3
      go_wp2_with fail
      go_ret
      exact ⟨rfl, Hu5.out.alloc _⟩
    case inl h2 =>
      subst h2
      obtain ⟨p1, p2, p3⟩ := P1.out rfl
      generalize hq : bytesP ql = q at *
      obtain ⟨qb, qf, qk⟩ := q
      simp only at p1 p2 p3
      subst p1
      have P3 := Lib.hid p3; clear p3
      go_wp2_with fail
      have hp := bytes_any _ ql _ (Hr5.out.up stable_rec (Up.alloc (Up.refl w5) (.cells #[.int .i64 0, .int .i64 (qa : Int)] 34)))
      rw [hq] at hp
      have Hp := Lib.hid hp; clear hp
      refine Hp.out.mono ?_
      rintro e w6 ⟨v6, rfl, how6, hu6⟩
      clear Hp P1 P2 H1
      have hsz : (w5.alloc (.cells #[.int .i64 0, .int .i64 (qa : Int)] 34)).heap.size = w5.heap.size + 1 := by simp
      rw [hsz] at how6
      have hr6 : RdB (fun k => k ≠ w5.heap.size) w6 v6 qb := rdB_of_owns how6 (fun k hk => by have := (how6.lt k hk).1; omega)
      obtain ⟨a6, c6, rfl, _, _⟩ := hr6.val
      have hbx := hu6.blk (blk_new w5 (.cells #[.int .i64 0, .int .i64 (qa : Int)] 34) rfl)
      have q0 : w6.cell? ⟨w5.heap.size, 0, none⟩ = some (.int .i64 0) := cell_of_row w6 _ 0 _ _ _ hbx
      have q1 : w6.cell? ⟨w5.heap.size, 1, none⟩ = some (.int .i64 (qa : Int)) := cell_of_row w6 _ 1 _ _ _ hbx
      have r0 : ∀ o, w6.frozen? ⟨w5.heap.size, o, none⟩ = false := fun o => frozen_of_row w6 _ o _ _ hbx
      have hz6 := lt_of_block hbx
      clear hbx how6
      have Hu56 := Lib.hid ((Up.alloc (Up.refl w5) _).trans hu6); clear hu6
      have Hr6 := Lib.hid hr6; clear hr6
      go_wp2_with fail
      have s0 : ((w6.setCell ⟨w5.heap.size, 0, none⟩ (.int .i64 0)).setCell ⟨w5.heap.size, 1, none⟩ (.int .i64 (qk : Int))).cell? ⟨w5.heap.size, 0, none⟩ = some (.int .i64 0) := by simp [go_sem, q0]
      have hr7 : RdB All ((w6.setCell ⟨w5.heap.size, 0, none⟩ (.int .i64 0)).setCell ⟨w5.heap.size, 1, none⟩ (.int .i64 (qk : Int))) (.slice a6 qb.length c6) qb :=
        ((Hr6.out.keep stable_u8 (Keep.setCell (p := ⟨w5.heap.size, 0, none⟩) (by simp) _)).keep stable_u8 (Keep.setCell (p := ⟨w5.heap.size, 1, none⟩) (by simp) _)).keep stable_u8 Keep.all
      have hl7 : RdS DRec 4 All ((w6.setCell ⟨w5.heap.size, 0, none⟩ (.int .i64 0)).setCell ⟨w5.heap.size, 1, none⟩ (.int .i64 (qk : Int))) (.slice a5 ql.length c5) ql :=
        ((((Hr5.out.keep stable_rec Keep.lt).up stable_rec Hu56.out).keep stable_rec (Keep.setCell (p := ⟨w5.heap.size, 0, none⟩) (by simp [Lt]) _)).keep stable_rec (Keep.setCell (p := ⟨w5.heap.size, 1, none⟩) (by simp [Lt]) _)).keep stable_rec Keep.all
      have hu7 : Up w ((w6.setCell ⟨w5.heap.size, 0, none⟩ (.int .i64 0)).setCell ⟨w5.heap.size, 1, none⟩ (.int .i64 (qk : Int))) := by
        repeat (with_reducible refine Up.setCell ?_ ?_ _)
        · exact Hu5.out.trans Hu56.out
        all_goals exact Hu5.out.size
      have hz7 : w5.heap.size < ((w6.setCell ⟨w5.heap.size, 0, none⟩ (.int .i64 0)).setCell ⟨w5.heap.size, 1, none⟩ (.int .i64 (qk : Int))).heap.size := by simp [go_sem, hz6]
      generalize (w6.setCell ⟨w5.heap.size, 0, none⟩ (.int .i64 0)).setCell ⟨w5.heap.size, 1, none⟩ (.int .i64 (qk : Int)) = w7 at *
      clear q0 q1 r0 hz6 Hr6 Hu56 Hr5
      have Hl7 := Lib.hid hl7; have Hu7 := Lib.hid hu7; clear hl7 hu7
      have hp := parse_law _ qb _ hr7
      rw [P3.out] at hp
      have Hp := Lib.hid hp; clear hp hr7 P3
      refine Hp.out.mono ?_
      rintro e w8 ⟨a8, c8, rfl, hr8, hu8⟩
      clear Hp
      have t0 : w8.cell? ⟨w5.heap.size, 0, none⟩ = some (.int .i64 0) := hu8.cell_some s0
      have hz8 : w5.heap.size < w8.heap.size := Nat.lt_of_lt_of_le hz7 hu8.size
      have Hl8 := Lib.hid (Hl7.out.up stable_rec hu8)
      have Hu8 := Lib.hid (Hu7.out.trans hu8); clear hu8
      have Hr8 := Lib.hid hr8; clear hr8
      go_wp2_with (first
        | (go_at_call 17; go_must (refine (same_law _ _ ql ql _ rfl (Hl8.out.up stable_rec (Up.alloc (Up.refl w8) _)) (Hr8.out.up stable_rec (Up.alloc (Up.refl w8) _))).mono ?_; rintro e w9 ⟨rfl, hu9⟩; have Hu9 := Lib.hid ((Hu8.out.alloc (.cells #[.int .i64 0, .int .i64 0] 34)).trans hu9); clear hu9)))
      go_ret
      exact ⟨rfl, Hu9.out⟩
end Go.Proofs.Ytplgegffapikoaa
