/-
  A body that lies has numbers of 64 bits.
  Package wire: Bytes.
  Has a file a message that is one of a choice?
  pressref2.Mixed.
  How Go's data, as they come in, read as lists and records.
-/
import Derived.Test.YtbceapeoknngnaaGreatDoorCp03
import Derived.Test.YtbceapeoknngnaaGreatDoorCp33
import Derived.Test.YtbceapeoknngnaaGreatDoorProg
import Derived.Test.YtbceapeoknngnaaGreatDoorCp15
import Derived.Test.YtbceapeoknngnaaGreatDoorCp14
import Derived.Outline
import Derived.Deep.DeepMust
import Derived.Test.YtbceapeoknngnaaGreatDoorCp12
import Derived.Deep.Slices
import Derived.ChangeArms
import Derived.ChangeSame
import Derived.DataReads
import Derived.SizedLaws
set_option linter.unusedVariables false
namespace Go.Proofs.YtbceapeoknngnaaGreatDoor
open Go.RowKit
theorem b64_of : ∀ (d : Nat) {S : Nat → Prop} {w : World} {b : Bod} {cs : List Value}, DBodF d S w b cs → ∀ k, B64 k b
  | 0, _, _, _, _, h, _ => h.elim
  | d + 1, S, w, b, cs, h, 0 => trivial
  | d + 1, S, w, b, cs, ⟨vv, vu, _, hv, hu, _⟩, k + 1 => by
    refine ⟨fun v hv' => ?_, fun r hr => ?_⟩
    · obtain ⟨i, hi, rfl⟩ := List.getElem_of_mem hv'
      obtain ⟨ao, cap, _, _, _, _, g4⟩ := hv
      obtain ⟨_, _, cs, _, _, _, _, _, vb, vy, vs, rfl, _, h1, _, h3, _⟩ := g4 i hi
      refine ⟨fun n hn => ?_, fun s hs => ?_⟩
      · obtain ⟨j, hj, rfl⟩ := List.getElem_of_mem hn
        obtain ⟨ao', cap', _, _, _, _, g4'⟩ := h1
        obtain ⟨_, _, cs', _, _, _, _, _, h⟩ := g4' j hj
        have := h.2
        simpa using this
      · obtain ⟨j, hj, rfl⟩ := List.getElem_of_mem hs
        obtain ⟨ao', cap', _, _, _, _, g4'⟩ := h3
        obtain ⟨_, _, cs', _, _, _, _, _, h⟩ := g4' j hj
        exact b64_of d h k
    · obtain ⟨i, hi, rfl⟩ := List.getElem_of_mem hr
      obtain ⟨ao, cap, _, _, _, _, g4⟩ := hu
      obtain ⟨_, _, cs, _, _, _, _, _, ⟨_, _, _, h64⟩, _⟩ := g4 i hi
      simpa using h64
end Go.Proofs.YtbceapeoknngnaaGreatDoor
set_option linter.unusedVariables false
namespace Go.Proofs.YtbceapeoknngnaaGreatDoor
open Go.RowKit
set_option maxRecDepth 100000 in
set_option maxHeartbeats 800000 in
theorem bytes_any (v : Value) (l : List Rec) (w : World) (hv : RdS DRec 4 All w v l) :
    Calls Tryz.prog 32 #[v] w fun e w' => ∃ v', e = .returned (.tuple #[v', .agg #[.int .i64 (bytesP l).2.1, .int .i64 ((bytesP l).2.2 : Int)]]) ∧ w'.ownsRow (w.heap.size + 1) 5 1 v' (bytesP l).1.length (B8 (bytesP l).1) ∧ Up w w' := by
  obtain ⟨ao, cap, rfl, hc1, hc2⟩ := hv.val
  have Hv := Lib.hid (hv.keep stable_rec Keep.lt); clear hv
  go_enter Tryz.func32, Tryz.ntmps32
  go_wp2_with fail
  go_loopw [4, 10] (fun o i wr => ∃ (k : Nat) (acc : List UInt8), k ≤ l.length ∧ i = .int .i64 k ∧ acc.length ≤ 4000 ∧ bytesF k acc (l.drop k) = bytesP l ∧ wr.ownsRow (w.heap.size + 1) 5 1 o acc.length (B8 acc) ∧ Up w wr ∧
      wr.heap[w.heap.size]? = some (.cells #[.int .i64 0, .int .i64 0] 67 (0, 0)))
    (fun _ i _ => l.length - (intOf i).toNat)
  case atStart => exact ⟨0, [], by omega, rfl, by simp, rfl, World.ownsRow_nil _ _ _ _, Up.alloc (Up.refl w) _, heap_alloc_new w _⟩
  case round =>
    obtain ⟨k, acc, hk, rfl, hacc, hp, how, hu, hbx⟩ := hrel
    have q0 : wr.cell? ⟨w.heap.size, 0, none⟩ = some (.int .i64 0) := cell_of_row wr _ 0 _ _ _ hbx
    have q1 : wr.cell? ⟨w.heap.size, 1, none⟩ = some (.int .i64 0) := cell_of_row wr _ 1 _ _ _ hbx
    have f0 : ∀ o, wr.frozen? ⟨w.heap.size, o, none⟩ = false := fun o => frozen_of_row wr _ o _ _ hbx
    have hwz : w.heap.size + 1 ≤ wr.heap.size := lt_of_block hbx
    have Hp := Lib.hid hp; clear hp
    have How := Lib.hid how; clear how
    have Hbx := Lib.hid hbx; clear hbx
    have Hu := Lib.hid hu; clear hu
    by_cases hlt : k < l.length
    · obtain ⟨b, o, a3, c3, rfl, hrb, h64, g0, g1, g2, g3⟩ := rdRec_cell (Hv.out.up stable_rec Hu.out) hlt
      have hd : l.drop k = l[k] :: l.drop (k + 1) := List.drop_eq_getElem_cons hlt
      generalize l[k] = r at *
      have hp := Hp.out
      rw [hd, bytesF] at hp
      have Hrb := Lib.hid hrb; clear hrb
      have H64 := Lib.hid h64; clear h64 hd
      have Hp2 := Lib.hid hp; clear hp
      have hne : ∀ j, u4.ownBlock = some j → w.heap.size + 1 ≤ j := fun j hj => (How.out.lt j hj).1
      have Hne := Lib.hid hne; clear hne
      by_cases hw : wrongRec r = 0
      · have hp := Hp2.out
        rw [if_neg (by simp [hw])] at hp
        obtain ⟨acc2, hacc2⟩ : ∃ x, x = acc ++ oneB r := ⟨_, rfl⟩
        rw [← hacc2] at hp
        have Hacc2 := Lib.hid hacc2; clear hacc2
        by_cases hm : 4000 < acc2.length
        · rw [if_pos hm] at hp
          have Hp3 := Lib.hid hp; clear hp
          go_wp2_with (first
            | (go_at_call 58; go_must (refine (wrongRec_any r _ _ ((Hrb.out.keep stable_u8 Keep.all).up stable_u8 (Up.alloc (Up.refl _) _))).mono ?_; rintro e w2 ⟨rfl, hu2⟩; have hbk := hu2.blk (heap_alloc_new _ _); have c0 : w2.cell? ⟨wr.heap.size, 0, none⟩ = some (.int .i64 r.number) := cell_of_row w2 _ 0 _ _ _ hbk; have c1 : w2.cell? ⟨wr.heap.size, 1, none⟩ = some (.int .i64 r.how) := cell_of_row w2 _ 1 _ _ _ hbk; have c2 : w2.cell? ⟨wr.heap.size, 2, none⟩ = some (.int .u64 (r.bits : Int)) := cell_of_row w2 _ 2 _ _ _ hbk; have c3' : w2.cell? ⟨wr.heap.size, 3, none⟩ = some (.slice a3 r.bytes.length c3) := cell_of_row w2 _ 3 _ _ _ hbk; have Hu2 := Lib.hid ((Up.alloc (Up.refl wr) _).trans hu2); have hz2 : w.heap.size + 1 ≤ w2.heap.size := Nat.le_trans hwz Hu2.out.size; have p0 : w2.cell? ⟨w.heap.size, 0, none⟩ = some (.int .i64 0) := cell_of_row w2 _ 0 _ _ _ (Hu2.out.blk Hbx.out); have p1 : w2.cell? ⟨w.heap.size, 1, none⟩ = some (.int .i64 0) := cell_of_row w2 _ 1 _ _ _ (Hu2.out.blk Hbx.out); have r0 : ∀ o, w2.frozen? ⟨w.heap.size, o, none⟩ = false := (fun o => frozen_of_row w2 _ o _ _ (Hu2.out.blk Hbx.out)); clear hbk hu2))
            | (go_at_call 59; go_must (refine (add_own (w.heap.size + 1) _ acc r _ _ (Hrb.out.keep stable_u8 ((Keep.upS Hu2.out).trans (Keep.weak (fun j hj e => by have := Hne.out j e; unfold Lt at hj; omega)))) hw H64.out (by omega) (How.out.kept Hu2.out.to_none (by cases u4.ownBlock <;> simp)) hz2).mono ?_; rintro e w3 ⟨v3, rfl, how3, hev3⟩; rw [← Hacc2.out] at how3; obtain ⟨a4, c4, rfl, _, _⟩ := (rdB_of_owns (S := All) how3 (fun _ _ => trivial)).val; have How3 := Lib.hid how3; clear how3; have Hev3 := Lib.hid hev3; clear hev3; have hbx3 := Hev3.out.blk (Hu2.out.blk Hbx.out) (fun e => by have := Hne.out _ e; omega); have s0 : w3.cell? ⟨w.heap.size, 0, none⟩ = some (.int .i64 0) := cell_of_row w3 _ 0 _ _ _ hbx3; have s1 : w3.cell? ⟨w.heap.size, 1, none⟩ = some (.int .i64 0) := cell_of_row w3 _ 1 _ _ _ hbx3; have t0 : ∀ o, w3.frozen? ⟨w.heap.size, o, none⟩ = false := (fun o => frozen_of_row w3 _ o _ _ hbx3); have Hbx3 := Lib.hid hbx3; clear hbx3; have hz3 : w.heap.size < w3.heap.size := (by have := Hev3.out.grown.size; omega))))
          refine bodyPost_ret (v := .tuple #[.slice none 0 0, .agg #[.int .i64 4, .int .i64 k]]) (by simp [results, Tryz.results32, go_sem, s0, s1]) rfl ?_
          rw [← Hp3.out]
          refine ⟨_, rfl, World.ownsRow_nil _ _ _ _, ?_⟩
          repeat (with_reducible refine Up.setCell ?_ ?_ _)
          · exact (Hu.out.trans Hu2.out).evo Hev3.out (fun j hj => by have := Hne.out j hj; omega)
          all_goals simp
        · rw [if_neg hm] at hp
          have Hp3 := Lib.hid hp; clear hp
          go_wp2_with (first
            | (go_at_call 58; go_must (refine (wrongRec_any r _ _ ((Hrb.out.keep stable_u8 Keep.all).up stable_u8 (Up.alloc (Up.refl _) _))).mono ?_; rintro e w2 ⟨rfl, hu2⟩; have hbk := hu2.blk (heap_alloc_new _ _); have c0 : w2.cell? ⟨wr.heap.size, 0, none⟩ = some (.int .i64 r.number) := cell_of_row w2 _ 0 _ _ _ hbk; have c1 : w2.cell? ⟨wr.heap.size, 1, none⟩ = some (.int .i64 r.how) := cell_of_row w2 _ 1 _ _ _ hbk; have c2 : w2.cell? ⟨wr.heap.size, 2, none⟩ = some (.int .u64 (r.bits : Int)) := cell_of_row w2 _ 2 _ _ _ hbk; have c3' : w2.cell? ⟨wr.heap.size, 3, none⟩ = some (.slice a3 r.bytes.length c3) := cell_of_row w2 _ 3 _ _ _ hbk; have Hu2 := Lib.hid ((Up.alloc (Up.refl wr) _).trans hu2); have hz2 : w.heap.size + 1 ≤ w2.heap.size := Nat.le_trans hwz Hu2.out.size; have p0 : w2.cell? ⟨w.heap.size, 0, none⟩ = some (.int .i64 0) := cell_of_row w2 _ 0 _ _ _ (Hu2.out.blk Hbx.out); have p1 : w2.cell? ⟨w.heap.size, 1, none⟩ = some (.int .i64 0) := cell_of_row w2 _ 1 _ _ _ (Hu2.out.blk Hbx.out); have r0 : ∀ o, w2.frozen? ⟨w.heap.size, o, none⟩ = false := (fun o => frozen_of_row w2 _ o _ _ (Hu2.out.blk Hbx.out)); clear hbk hu2))
            | (go_at_call 59; go_must (refine (add_own (w.heap.size + 1) _ acc r _ _ (Hrb.out.keep stable_u8 ((Keep.upS Hu2.out).trans (Keep.weak (fun j hj e => by have := Hne.out j e; unfold Lt at hj; omega)))) hw H64.out (by omega) (How.out.kept Hu2.out.to_none (by cases u4.ownBlock <;> simp)) hz2).mono ?_; rintro e w3 ⟨v3, rfl, how3, hev3⟩; rw [← Hacc2.out] at how3; obtain ⟨a4, c4, rfl, _, _⟩ := (rdB_of_owns (S := All) how3 (fun _ _ => trivial)).val; have How3 := Lib.hid how3; clear how3; have Hev3 := Lib.hid hev3; clear hev3; have hbx3 := Hev3.out.blk (Hu2.out.blk Hbx.out) (fun e => by have := Hne.out _ e; omega); have s0 : w3.cell? ⟨w.heap.size, 0, none⟩ = some (.int .i64 0) := cell_of_row w3 _ 0 _ _ _ hbx3; have s1 : w3.cell? ⟨w.heap.size, 1, none⟩ = some (.int .i64 0) := cell_of_row w3 _ 1 _ _ _ hbx3; have t0 : ∀ o, w3.frozen? ⟨w.heap.size, o, none⟩ = false := (fun o => frozen_of_row w3 _ o _ _ hbx3); have Hbx3 := Lib.hid hbx3; clear hbx3; have hz3 : w.heap.size < w3.heap.size := (by have := Hev3.out.grown.size; omega))))
          go_roundw
          case rel =>
            refine ⟨k + 1, acc2, by omega, by go_num, by omega, Hp3.out, How3.out, (Hu.out.trans Hu2.out).evo Hev3.out (fun j hj => by have := Hne.out j hj; omega), Hbx3.out⟩
          case measure => simp [intOf]; omega
      · have hp := Hp2.out
        rw [if_pos hw] at hp
        have Hp3 := Lib.hid hp; clear hp
        have hw2 : (wrongRec r != 0) = true := by rw [bne_iff_ne]; exact hw
        go_wp2_with (first
          | (go_at_call 58; go_must (refine (wrongRec_any r _ _ ((Hrb.out.keep stable_u8 Keep.all).up stable_u8 (Up.alloc (Up.refl _) _))).mono ?_; rintro e w2 ⟨rfl, hu2⟩; have hbk := hu2.blk (heap_alloc_new _ _); have c0 : w2.cell? ⟨wr.heap.size, 0, none⟩ = some (.int .i64 r.number) := cell_of_row w2 _ 0 _ _ _ hbk; have c1 : w2.cell? ⟨wr.heap.size, 1, none⟩ = some (.int .i64 r.how) := cell_of_row w2 _ 1 _ _ _ hbk; have c2 : w2.cell? ⟨wr.heap.size, 2, none⟩ = some (.int .u64 (r.bits : Int)) := cell_of_row w2 _ 2 _ _ _ hbk; have c3' : w2.cell? ⟨wr.heap.size, 3, none⟩ = some (.slice a3 r.bytes.length c3) := cell_of_row w2 _ 3 _ _ _ hbk; have Hu2 := Lib.hid ((Up.alloc (Up.refl wr) _).trans hu2); have hz2 : w.heap.size + 1 ≤ w2.heap.size := Nat.le_trans hwz Hu2.out.size; have p0 : w2.cell? ⟨w.heap.size, 0, none⟩ = some (.int .i64 0) := cell_of_row w2 _ 0 _ _ _ (Hu2.out.blk Hbx.out); have p1 : w2.cell? ⟨w.heap.size, 1, none⟩ = some (.int .i64 0) := cell_of_row w2 _ 1 _ _ _ (Hu2.out.blk Hbx.out); have r0 : ∀ o, w2.frozen? ⟨w.heap.size, o, none⟩ = false := (fun o => frozen_of_row w2 _ o _ _ (Hu2.out.blk Hbx.out)); clear hbk hu2)))
        refine bodyPost_ret (v := .tuple #[.slice none 0 0, .agg #[.int .i64 (wrongRec r), .int .i64 k]]) (by simp [results, Tryz.results32, go_sem, p0, p1]) rfl ?_
        rw [← Hp3.out]
        refine ⟨_, rfl, World.ownsRow_nil _ _ _ _, ?_⟩
        repeat (with_reducible refine Up.setCell ?_ ?_ _)
        · exact Hu.out.trans Hu2.out
        all_goals simp
    · go_wp2_with fail
      refine bodyPost_ret (v := .tuple #[u4, .agg #[.int .i64 0, .int .i64 0]]) (by simp [results, Tryz.results32, go_sem, q0, q1]) rfl ?_
      have hp := Hp.out
      rw [List.drop_eq_nil_of_le (by omega), bytesF] at hp
      rw [← hp]
      have hne : ∀ j, u4.ownBlock = some j → w.heap.size + 1 ≤ j := fun j hj => (How.out.lt j hj).1
      refine ⟨_, rfl, ?_, ?_⟩
      · with_reducible refine ownsRow_setCell_other (ownsRow_setCell_other How.out ?_ _) ?_ _
        all_goals exact fun e => by have := hne _ e; simp at this; omega
      · repeat (with_reducible refine Up.setCell ?_ ?_ _)
        · exact Hu.out
        all_goals simp
end Go.Proofs.YtbceapeoknngnaaGreatDoor
set_option linter.unusedVariables false
namespace Go.Proofs.YtbceapeoknngnaaGreatDoor
open Go.RowKit
def mixedF (x : Fld) : Bool := x.kind == 10 && decide (0 < x.choice)
def mixedN (f : Fil) : Bool := f.msgs.any fun m => m.fields.any mixedF
theorem any_at {α : Type} {p : α → Bool} {l : List α} {k : Nat} (hk : k < l.length) (h : p l[k] = true) : l.any p = true := List.any_eq_true.2 ⟨_, List.getElem_mem hk, h⟩
theorem any_none {α : Type} {p : α → Bool} {l : List α} (h : ∀ j, (hj : j < l.length) → p l[j] = false) : l.any p = false := by
  rw [List.any_eq_false]
  intro x hx
  obtain ⟨j, hj, rfl⟩ := List.getElem_of_mem hx
  rw [h j hj]; decide
end Go.Proofs.YtbceapeoknngnaaGreatDoor
set_option linter.unusedVariables false
namespace Go.Proofs.YtbceapeoknngnaaGreatDoor
open Go.RowKit
set_option maxRecDepth 100000 in
set_option maxHeartbeats 1600000 in
theorem mixed_r (v : Value) (f : Fil) (w : World) (hv : FilV All w v f) :
    Calls Tryz.prog 33 #[v] w fun e w' => e = .returned (.bool (mixedN f)) ∧ Up w w' := by
  obtain ⟨vm, ve, rfl, hm, he⟩ := hv
  obtain ⟨R, hR⟩ : ∃ R, mixedN f = R := ⟨_, rfl⟩
  rw [hR]
  unfold mixedN at hR
  generalize f.msgs = l at *
  have HR := Lib.hid hR
  obtain ⟨ao, cap, h0, hc1, hc2⟩ := hm.val
  subst h0
  have Hv := Lib.hid hm; clear hm he hR
  go_enter Tryz.func33, Tryz.ntmps33
  go_wp2_with fail
  go_loopw [10] (fun i wr => ∃ k : Nat, k ≤ l.length ∧ i = .int .i64 k ∧ Up w wr ∧ ∀ j, (hj : j < l.length) → j < k → l[j].fields.any mixedF = false) (fun i _ => l.length - (intOf i).toNat)
  case atStart => exact ⟨0, by omega, rfl, (Up.refl _).alloc _, fun j _ h => absurd h (by omega)⟩
  case round =>
    obtain ⟨k, hk, rfl, hu, hg⟩ := hrel
    have Hg := Lib.hid hg; clear hg
    by_cases hlt : k < l.length
    · obtain ⟨b, o, cs, rfl, hb, hl, hcs, hd⟩ := (Hv.out.up stable_msg hu).at hlt
      obtain ⟨vf, vb, hd, hf, hb2, _⟩ := hd
      obtain ⟨fo, fc, rfl, _, _⟩ := hf.val
      obtain ⟨bo, bc, rfl, _, _⟩ := hb2.val
      subst hd
      have c0 := hcs 0 _ rfl
      have c1 := hcs 1 _ rfl
      have c2 := hcs 2 _ rfl
      simp only [Nat.add_zero] at c0
      clear hcs hl hb2
      have i0 : (0 : Int) ≤ (k : Int) := by omega
      have i1 : (k : Int) < (l.length : Int) := by omega
      have Hhit := Lib.hid (fun (e : l[k].fields.any mixedF = true) => (any_at (p := fun m : Msg => m.fields.any mixedF) hlt e : l.any (fun m => m.fields.any mixedF) = true))
      have Hnext := Lib.hid (fun (e : l[k].fields.any mixedF = false) => (no_more (p := fun m : Msg => m.fields.any mixedF) hlt Hg.out e))
      have Hu := Lib.hid hu; have Hf := Lib.hid hf; clear hu hf
      generalize l[k] = x at *
      obtain ⟨wq, rfl⟩ : ∃ wq : World, wq = wr := ⟨_, rfl⟩
      go_wp2_with fail
      go_loopw [17] (fun i wr => ∃ k2 : Nat, k2 ≤ x.fields.length ∧ i = .int .i64 k2 ∧ Up wq wr ∧ ∀ j, (hj : j < x.fields.length) → j < k2 → mixedF x.fields[j] = false) (fun i _ => x.fields.length - (intOf i).toNat)
      case atStart => exact ⟨0, by omega, rfl, (Up.refl _).alloc _, fun j _ h => absurd h (by omega)⟩
      case round =>
        clear c0 c1 c2
        obtain ⟨k2, hk2, rfl, hu2, hg2⟩ := hrel
        have Hg2 := Lib.hid hg2; clear hg2
        by_cases hlt2 : k2 < x.fields.length
        · obtain ⟨bb, oo, rfl, hfa⟩ := fld_at (Hf.out.up stable_fld hu2) hlt2
          have Hhit2 := Lib.hid (fun (e : mixedF x.fields[k2] = true) => any_at hlt2 e)
          have Hnext2 := Lib.hid (fun (e : mixedF x.fields[k2] = false) => no_more (p := mixedF) hlt2 Hg2.out e)
          obtain ⟨_, ⟨c0, c1, c2, c3, c4, c5⟩, _⟩ := hfa
          have k0 : (0 : Int) ≤ (k2 : Int) := by omega
          have k1 : (k2 : Int) < (x.fields.length : Int) := by omega
          have Hu2 := Lib.hid hu2
          clear hu2
          unfold mixedF at Hhit2 Hnext2
          generalize x.fields[k2] = y at *
          obtain ⟨wz, rfl⟩ : ∃ wz : World, wz = wr := ⟨_, rfl⟩
          cases hk10 : (y.kind == 10) with
          | false =>
            go_wp2_with fail
            go_roundw
            case rel => exact ⟨k2 + 1, by omega, by go_num, Hu2.out.alloc _, Hnext2.out (by rw [hk10]; rfl)⟩
            case measure => simp [intOf]; omega
          | true =>
            cases hch : decide (0 < y.choice) with
            | false =>
              have hc' : ¬ 0 < y.choice := of_decide_eq_false hch
              have Hrel := Lib.hid (Hnext2.out (by rw [hk10, hch]; rfl))
              clear hch
              go_wp2_with fail
              go_roundw
              case rel => exact ⟨k2 + 1, by omega, by go_num, Hu2.out.alloc _, Hrel.out⟩
              case measure => simp [intOf]; omega
            | true =>
              have hc' : 0 < y.choice := of_decide_eq_true hch
              have Hres := Lib.hid (show R = true by rw [← HR.out]; exact Hhit.out (Hhit2.out (by rw [hk10, hch]; rfl)))
              clear hch
              go_wp2_with fail
              go_ret
              have hres := Hres.out
              subst hres
              exact ⟨rfl, Hu.out.trans (Hu2.out.alloc _)⟩
        · have hn := any_none (p := mixedF) (l := x.fields) (fun j hj => Hg2.out j hj (by omega))
          have Hrel := Lib.hid (Hnext.out hn)
          have Hu2 := Lib.hid (Hu.out.trans hu2)
          clear hu2 hn
          go_wp2_with fail
          go_roundw
          case rel => exact ⟨k + 1, by omega, by go_num, Hu2.out, Hrel.out⟩
          case measure => simp [intOf]; omega
    · have Hres := Lib.hid (show R = false by rw [← HR.out]; exact any_none (p := fun m : Msg => m.fields.any mixedF) (fun j hj => Hg.out j hj (by omega)))
      have Hu := Lib.hid hu
      clear hu
      go_wp2_with fail
      go_ret
      have hres := Hres.out
      subst hres
      exact ⟨rfl, Hu.out⟩
end Go.Proofs.YtbceapeoknngnaaGreatDoor
set_option linter.unusedVariables false
namespace Go.Proofs.YtbceapeoknngnaaGreatDoor
open Go.RowKit
def Reads {α : Type} (P : Program) (t : TypeId) (D : Lay α) : Prop :=
  ∀ {H : Type} (enc : TypeId × Value → H) (w : World) (base : Nat) (spare : Nat → Bool) (held : Bool) (fuel : Nat) (cs : List Value) (x : DataW H × List MemPlace), DataW.trod enc P w base spare held fuel t cs = some x → ∃ a : α, D All w a cs
theorem reads_u8 {P : Program} {t : TypeId} (ht : P.underlying t = some (.int .u8)) : Reads P t DU8 := fun enc w base spare held fuel cs x h => by
  obtain ⟨n, rfl, _, hwf⟩ := DataW.trod_int ht h
  have hx : 0 ≤ n ∧ n ≤ 255 := by simpa [Lit.wf, IntKind.min, IntKind.max, IntKind.signed, IntKind.bits] using hwf
  refine ⟨UInt8.ofNat n.toNat, ?_⟩
  unfold DU8
  have : (UInt8.ofNat n.toNat).toNat = n.toNat := by simp; omega
  rw [this]
  congr 2; omega
theorem reads_int {P : Program} {t : TypeId} (ht : P.underlying t = some (.int .i64)) : Reads P t DInt := fun enc w base spare held fuel cs x h => by
  obtain ⟨n, rfl, _, hwf⟩ := DataW.trod_int ht h
  have hx : -9223372036854775808 ≤ n ∧ n ≤ 9223372036854775807 := by simpa [Lit.wf, IntKind.min, IntKind.max, IntKind.signed, IntKind.bits] using hwf
  exact ⟨n, rfl, hx.1, hx.2⟩
theorem reads_u64 {P : Program} {t : TypeId} (ht : P.underlying t = some (.int .u64)) : Reads P t DU64 := fun enc w base spare held fuel cs x h => by
  obtain ⟨n, rfl, _, hwf⟩ := DataW.trod_int ht h
  have hx : 0 ≤ n ∧ n ≤ 18446744073709551615 := by simpa [Lit.wf, IntKind.min, IntKind.max, IntKind.signed, IntKind.bits] using hwf
  refine ⟨n.toNat, ?_, by omega⟩
  congr 2; omega
theorem cells?_at {w : World} {base : Nat} {a : Addr} {n : Nat} {cs : List Value} (h : w.cells? base a n = some cs) : cs.length = n ∧ ∀ j u, cs[j]? = some u → w.cell? (a.add j) = some u := by
  obtain ⟨_, hl, hc⟩ := World.cells?_some h
  refine ⟨hl, fun j u hu => ?_⟩
  have hj : j < n := by rw [← hl]; exact (List.getElem?_eq_some_iff.1 hu).1
  rw [hc j hj]; exact hu
theorem reads_slice {α : Type} [Inhabited α] {D : Lay α} {P : Program} {t e : TypeId} {size : Nat} (ht : P.underlying t = some (.slice e)) (hs : P.cellsOf e = size) (hp : 0 < size) (he : Reads P e D) : Reads P t (fun S w l cs => ∃ v, cs = [v] ∧ RdS D size S w v l) := fun enc w base spare held fuel cs x h => by
  rcases Go.Deep.open_slice ht h with ⟨rfl, _⟩ | ⟨a, len, cap, m, n, Dt, Pl, rfl, hb, hl, hm, hmm, _, hel⟩
  · exact ⟨[], _, rfl, none, 0, rfl, by simp, by unfold maxLen; omega, fun _ => rfl, fun i hi => by simp at hi⟩
  · have hlm : len ≤ m := by rw [hmm]; split <;> omega
    obtain ⟨f, hf⟩ := Go.Deep.choose_lt (α := α × List Value) (n := len) (p := fun i ac => ac.2.length = size ∧ (∀ j u, ac.2[j]? = some u → w.cell? ((a.add (i * size)).add j) = some u) ∧ D All w ac.1 ac.2) (fun i hi => by
      obtain ⟨cs', h1, h2⟩ := hel i (by omega)
      rw [hs] at h1
      obtain ⟨h3, h4⟩ := cells?_at h1
      obtain ⟨y, hy⟩ := he enc w base spare held n cs' _ h2
      exact ⟨(y, cs'), h3, h4, hy⟩)
    refine ⟨(List.range len).map fun i => (f i).1, _, rfl, some a, cap, by simp, by simpa using hl, hm, (fun e => nomatch e), fun i hi => ?_⟩
    have hi' : i < len := by simpa using hi
    have hspot : a.spot = none := by
      have h0 := hf 0 (by omega)
      obtain ⟨u, hu⟩ : ∃ u, (f 0).2[0]? = some u := ⟨_, List.getElem?_eq_getElem (by omega)⟩
      have := h0.2.1 0 u hu
      have e : (a.add (0 * size)).add 0 = a := by simp [Addr.add]
      rw [e] at this
      exact World.cell?_spot this
    obtain ⟨b, o, spot⟩ := a
    simp only at hspot
    subst hspot
    have hfi := hf i hi'
    have hcell : ∀ j u, (f i).2[j]? = some u → w.cell? ⟨b, o + i * size + j, none⟩ = some u := fun j u hu => by
      have := hfi.2.1 j u hu
      rwa [Go.WideShapes.add_plain, Go.WideShapes.add_plain] at this
    obtain ⟨u, hu⟩ : ∃ u, (f i).2[0]? = some u := ⟨_, List.getElem?_eq_getElem (by omega)⟩
    exact ⟨b, o, (f i).2, rfl, trivial, World.block_lt_of_cell? w _ (hcell 0 u hu), hfi.1, hcell, by simpa using hfi.2.2⟩
end Go.Proofs.YtbceapeoknngnaaGreatDoor
