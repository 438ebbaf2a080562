/-
  Package wire: Bytes.
-/
import Derived.Test.YtplgegffapikoaaProg
import Derived.Test.YtplgegffapikoaaBase2
import Derived.Test.YtplgegffapikoaaAdd
import Derived.Test.YtplgegffapikoaaFold
import Derived.Outline
import Derived.Deep.DeepMust
set_option linter.unusedVariables false
namespace Go.Proofs.Ytplgegffapikoaa
open Go.RowKit

set_option maxRecDepth 100000 in
set_option maxHeartbeats 800000 in
theorem bytes_any (v : Value) (l : List Rec) (w : World) (hv : RdS DRec 4 All w v l) :
    Calls Try.prog 15 #[v] w fun e w' => ∃ v', e = .returned (.tuple #[v', .agg #[.int .i64 (bytesP l).2.1, .int .i64 ((bytesP l).2.2 : Int)]]) ∧ w'.ownsRow (w.heap.size + 1) 5 1 v' (bytesP l).1.length (B8 (bytesP l).1) ∧ Up w w' := by
  obtain ⟨ao, cap, rfl, hc1, hc2⟩ := hv.val
  have Hv := Lib.hid (hv.keep stable_rec Keep.lt); clear hv
  go_enter Try.func15, Try.ntmps15
  go_wp2_with fail
  go_loopw [4, 10] (fun o i wr => ∃ (k : Nat) (acc : List UInt8), k ≤ l.length ∧ i = .int .i64 k ∧ acc.length ≤ 4000 ∧ bytesF k acc (l.drop k) = bytesP l ∧ wr.ownsRow (w.heap.size + 1) 5 1 o acc.length (B8 acc) ∧ Up w wr ∧
      wr.heap[w.heap.size]? = some (.cells #[.int .i64 0, .int .i64 0] 34 (0, 0)))
    (fun _ i _ => l.length - (intOf i).toNat)
  case atStart => exact ⟨0, [], by omega, rfl, by simp, rfl, World.ownsRow_nil _ _ _ _, Up.alloc (Up.refl w) _, heap_alloc_new w _⟩
  case round =>
    obtain ⟨k, acc, hk, rfl, hacc, hp, how, hu, hbx⟩ := hrel
    have q0 : wr.cell? ⟨w.heap.size, 0, none⟩ = some (.int .i64 0) := cell_of_row wr _ 0 _ _ _ hbx
    have q1 : wr.cell? ⟨w.heap.size, 1, none⟩ = some (.int .i64 0) := cell_of_row wr _ 1 _ _ _ hbx
    have f0 : ∀ o, wr.frozen? ⟨w.heap.size, o, none⟩ = false := fun o => frozen_of_row wr _ o _ _ hbx
    have hwz : w.heap.size + 1 ≤ wr.heap.size := lt_of_block hbx
    have Hp := Lib.hid hp; clear hp
    have How := Lib.hid how; clear how
    have Hbx := Lib.hid hbx; clear hbx
    have Hu := Lib.hid hu; clear hu
    by_cases hlt : k < l.length
    · obtain ⟨b, o, a3, c3, rfl, hrb, h64, g0, g1, g2, g3⟩ := rdRec_cell (Hv.out.up stable_rec Hu.out) hlt
      have hd : l.drop k = l[k] :: l.drop (k + 1) := List.drop_eq_getElem_cons hlt
      generalize l[k] = r at *
      have hp := Hp.out
      rw [hd, bytesF] at hp
      have Hrb := Lib.hid hrb; clear hrb
      have H64 := Lib.hid h64; clear h64 hd
      have Hp2 := Lib.hid hp; clear hp
      have hne : ∀ j, u4.ownBlock = some j → w.heap.size + 1 ≤ j := fun j hj => (How.out.lt j hj).1
      have Hne := Lib.hid hne; clear hne
      by_cases hw : wrongRec r = 0
      · have hp := Hp2.out
        rw [if_neg (by simp [hw])] at hp
        obtain ⟨acc2, hacc2⟩ : ∃ x, x = acc ++ oneB r := ⟨_, rfl⟩
        rw [← hacc2] at hp
        have Hacc2 := Lib.hid hacc2; clear hacc2
        by_cases hm : 4000 < acc2.length
        · rw [if_pos hm] at hp
          have Hp3 := Lib.hid hp; clear hp
          go_wp2_with (first
            | (go_at_call 36; go_must (refine (wrongRec_any r _ _ ((Hrb.out.keep stable_u8 Keep.all).up stable_u8 (Up.alloc (Up.refl _) _))).mono ?_; rintro e w2 ⟨rfl, hu2⟩; have hbk := hu2.blk (heap_alloc_new _ _); have c0 : w2.cell? ⟨wr.heap.size, 0, none⟩ = some (.int .i64 r.number) := cell_of_row w2 _ 0 _ _ _ hbk; have c1 : w2.cell? ⟨wr.heap.size, 1, none⟩ = some (.int .i64 r.how) := cell_of_row w2 _ 1 _ _ _ hbk; have c2 : w2.cell? ⟨wr.heap.size, 2, none⟩ = some (.int .u64 (r.bits : Int)) := cell_of_row w2 _ 2 _ _ _ hbk; have c3' : w2.cell? ⟨wr.heap.size, 3, none⟩ = some (.slice a3 r.bytes.length c3) := cell_of_row w2 _ 3 _ _ _ hbk; have Hu2 := Lib.hid ((Up.alloc (Up.refl wr) _).trans hu2); have hz2 : w.heap.size + 1 ≤ w2.heap.size := Nat.le_trans hwz Hu2.out.size; have p0 : w2.cell? ⟨w.heap.size, 0, none⟩ = some (.int .i64 0) := cell_of_row w2 _ 0 _ _ _ (Hu2.out.blk Hbx.out); have p1 : w2.cell? ⟨w.heap.size, 1, none⟩ = some (.int .i64 0) := cell_of_row w2 _ 1 _ _ _ (Hu2.out.blk Hbx.out); have r0 : ∀ o, w2.frozen? ⟨w.heap.size, o, none⟩ = false := (fun o => frozen_of_row w2 _ o _ _ (Hu2.out.blk Hbx.out)); clear hbk hu2))
            | (go_at_call 37; go_must (refine (add_own (w.heap.size + 1) _ acc r _ _ (Hrb.out.keep stable_u8 ((Keep.upS Hu2.out).trans (Keep.weak (fun j hj e => by have := Hne.out j e; unfold Lt at hj; omega)))) hw H64.out (by omega) (How.out.kept Hu2.out.to_none (by cases u4.ownBlock <;> simp)) hz2).mono ?_; rintro e w3 ⟨v3, rfl, how3, hev3⟩; rw [← Hacc2.out] at how3; obtain ⟨a4, c4, rfl, _, _⟩ := (rdB_of_owns (S := All) how3 (fun _ _ => trivial)).val; have How3 := Lib.hid how3; clear how3; have Hev3 := Lib.hid hev3; clear hev3; have hbx3 := Hev3.out.blk (Hu2.out.blk Hbx.out) (fun e => by have := Hne.out _ e; omega); have s0 : w3.cell? ⟨w.heap.size, 0, none⟩ = some (.int .i64 0) := cell_of_row w3 _ 0 _ _ _ hbx3; have s1 : w3.cell? ⟨w.heap.size, 1, none⟩ = some (.int .i64 0) := cell_of_row w3 _ 1 _ _ _ hbx3; have t0 : ∀ o, w3.frozen? ⟨w.heap.size, o, none⟩ = false := (fun o => frozen_of_row w3 _ o _ _ hbx3); have Hbx3 := Lib.hid hbx3; clear hbx3; have hz3 : w.heap.size < w3.heap.size := (by have := Hev3.out.grown.size; omega))))
          refine bodyPost_ret (v := .tuple #[.slice none 0 0, .agg #[.int .i64 4, .int .i64 k]]) (by simp [results, Try.results15, go_sem, s0, s1]) rfl ?_
          rw [← Hp3.out]
          refine ⟨_, rfl, World.ownsRow_nil _ _ _ _, ?_⟩
          repeat (with_reducible refine Up.setCell ?_ ?_ _)
          · exact (Hu.out.trans Hu2.out).evo Hev3.out (fun j hj => by have := Hne.out j hj; omega)
          all_goals simp
        · rw [if_neg hm] at hp
          have Hp3 := Lib.hid hp; clear hp
          go_wp2_with (first
            | (go_at_call 36; go_must (refine (wrongRec_any r _ _ ((Hrb.out.keep stable_u8 Keep.all).up stable_u8 (Up.alloc (Up.refl _) _))).mono ?_; rintro e w2 ⟨rfl, hu2⟩; have hbk := hu2.blk (heap_alloc_new _ _); have c0 : w2.cell? ⟨wr.heap.size, 0, none⟩ = some (.int .i64 r.number) := cell_of_row w2 _ 0 _ _ _ hbk; have c1 : w2.cell? ⟨wr.heap.size, 1, none⟩ = some (.int .i64 r.how) := cell_of_row w2 _ 1 _ _ _ hbk; have c2 : w2.cell? ⟨wr.heap.size, 2, none⟩ = some (.int .u64 (r.bits : Int)) := cell_of_row w2 _ 2 _ _ _ hbk; have c3' : w2.cell? ⟨wr.heap.size, 3, none⟩ = some (.slice a3 r.bytes.length c3) := cell_of_row w2 _ 3 _ _ _ hbk; have Hu2 := Lib.hid ((Up.alloc (Up.refl wr) _).trans hu2); have hz2 : w.heap.size + 1 ≤ w2.heap.size := Nat.le_trans hwz Hu2.out.size; have p0 : w2.cell? ⟨w.heap.size, 0, none⟩ = some (.int .i64 0) := cell_of_row w2 _ 0 _ _ _ (Hu2.out.blk Hbx.out); have p1 : w2.cell? ⟨w.heap.size, 1, none⟩ = some (.int .i64 0) := cell_of_row w2 _ 1 _ _ _ (Hu2.out.blk Hbx.out); have r0 : ∀ o, w2.frozen? ⟨w.heap.size, o, none⟩ = false := (fun o => frozen_of_row w2 _ o _ _ (Hu2.out.blk Hbx.out)); clear hbk hu2))
            | (go_at_call 37; go_must (refine (add_own (w.heap.size + 1) _ acc r _ _ (Hrb.out.keep stable_u8 ((Keep.upS Hu2.out).trans (Keep.weak (fun j hj e => by have := Hne.out j e; unfold Lt at hj; omega)))) hw H64.out (by omega) (How.out.kept Hu2.out.to_none (by cases u4.ownBlock <;> simp)) hz2).mono ?_; rintro e w3 ⟨v3, rfl, how3, hev3⟩; rw [← Hacc2.out] at how3; obtain ⟨a4, c4, rfl, _, _⟩ := (rdB_of_owns (S := All) how3 (fun _ _ => trivial)).val; have How3 := Lib.hid how3; clear how3; have Hev3 := Lib.hid hev3; clear hev3; have hbx3 := Hev3.out.blk (Hu2.out.blk Hbx.out) (fun e => by have := Hne.out _ e; omega); have s0 : w3.cell? ⟨w.heap.size, 0, none⟩ = some (.int .i64 0) := cell_of_row w3 _ 0 _ _ _ hbx3; have s1 : w3.cell? ⟨w.heap.size, 1, none⟩ = some (.int .i64 0) := cell_of_row w3 _ 1 _ _ _ hbx3; have t0 : ∀ o, w3.frozen? ⟨w.heap.size, o, none⟩ = false := (fun o => frozen_of_row w3 _ o _ _ hbx3); have Hbx3 := Lib.hid hbx3; clear hbx3; have hz3 : w.heap.size < w3.heap.size := (by have := Hev3.out.grown.size; omega))))
          go_roundw
          case rel =>
            refine ⟨k + 1, acc2, by omega, by go_num, by omega, Hp3.out, How3.out, (Hu.out.trans Hu2.out).evo Hev3.out (fun j hj => by have := Hne.out j hj; omega), Hbx3.out⟩
          case measure => simp [intOf]; omega
      · have hp := Hp2.out
        rw [if_pos hw] at hp
        have Hp3 := Lib.hid hp; clear hp
        have hw2 : (wrongRec r != 0) = true := by rw [bne_iff_ne]; exact hw
        go_wp2_with (first
          | (go_at_call 36; go_must (refine (wrongRec_any r _ _ ((Hrb.out.keep stable_u8 Keep.all).up stable_u8 (Up.alloc (Up.refl _) _))).mono ?_; rintro e w2 ⟨rfl, hu2⟩; have hbk := hu2.blk (heap_alloc_new _ _); have c0 : w2.cell? ⟨wr.heap.size, 0, none⟩ = some (.int .i64 r.number) := cell_of_row w2 _ 0 _ _ _ hbk; have c1 : w2.cell? ⟨wr.heap.size, 1, none⟩ = some (.int .i64 r.how) := cell_of_row w2 _ 1 _ _ _ hbk; have c2 : w2.cell? ⟨wr.heap.size, 2, none⟩ = some (.int .u64 (r.bits : Int)) := cell_of_row w2 _ 2 _ _ _ hbk; have c3' : w2.cell? ⟨wr.heap.size, 3, none⟩ = some (.slice a3 r.bytes.length c3) := cell_of_row w2 _ 3 _ _ _ hbk; have Hu2 := Lib.hid ((Up.alloc (Up.refl wr) _).trans hu2); have hz2 : w.heap.size + 1 ≤ w2.heap.size := Nat.le_trans hwz Hu2.out.size; have p0 : w2.cell? ⟨w.heap.size, 0, none⟩ = some (.int .i64 0) := cell_of_row w2 _ 0 _ _ _ (Hu2.out.blk Hbx.out); have p1 : w2.cell? ⟨w.heap.size, 1, none⟩ = some (.int .i64 0) := cell_of_row w2 _ 1 _ _ _ (Hu2.out.blk Hbx.out); have r0 : ∀ o, w2.frozen? ⟨w.heap.size, o, none⟩ = false := (fun o => frozen_of_row w2 _ o _ _ (Hu2.out.blk Hbx.out)); clear hbk hu2)))
        refine bodyPost_ret (v := .tuple #[.slice none 0 0, .agg #[.int .i64 (wrongRec r), .int .i64 k]]) (by simp [results, Try.results15, go_sem, p0, p1]) rfl ?_
        rw [← Hp3.out]
        refine ⟨_, rfl, World.ownsRow_nil _ _ _ _, ?_⟩
        repeat (with_reducible refine Up.setCell ?_ ?_ _)
        · exact Hu.out.trans Hu2.out
        all_goals simp
    · go_wp2_with fail
      refine bodyPost_ret (v := .tuple #[u4, .agg #[.int .i64 0, .int .i64 0]]) (by simp [results, Try.results15, go_sem, q0, q1]) rfl ?_
      have hp := Hp.out
      rw [List.drop_eq_nil_of_le (by omega), bytesF] at hp
      rw [← hp]
      have hne : ∀ j, u4.ownBlock = some j → w.heap.size + 1 ≤ j := fun j hj => (How.out.lt j hj).1
      refine ⟨_, rfl, ?_, ?_⟩
      · with_reducible refine ownsRow_setCell_other (ownsRow_setCell_other How.out ?_ _) ?_ _
        all_goals exact fun e => by have := hne _ e; simp at this; omega
      · repeat (with_reducible refine Up.setCell ?_ ?_ _)
        · exact Hu.out
        all_goals simp
end Go.Proofs.Ytplgegffapikoaa
