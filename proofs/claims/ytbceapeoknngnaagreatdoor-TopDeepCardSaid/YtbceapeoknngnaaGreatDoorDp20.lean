/-
  (*reader).value, of a message.
  wire.Add of bytes of whatever length.
  (*writer).value: its closure; what a body's walk asks.
  (*writer).value.
-/
import Derived.Test.YtbceapeoknngnaaGreatDoorDp18
import Derived.Test.YtbceapeoknngnaaGreatDoorDp19
import Derived.Test.YtbceapeoknngnaaGreatDoorDp14
import Derived.Test.YtbceapeoknngnaaGreatDoorProg
import Derived.Test.YtbceapeoknngnaaGreatDoorDp05
import Derived.Test.YtbceapeoknngnaaGreatDoorDp15
import Derived.Outline
import Derived.Deep.DeepMust
import Derived.Deep.RegionHeld3
set_option linter.unusedVariables false
namespace Go.Proofs.YtbceapeoknngnaaGreatDoor
open Go.RowKit
abbrev RBodC (k : Nat) (f : Fil) : Prop := ∀ (msg : Int) (l : List UInt8) (v : Value) (cb fb : Nat) (w : World), 0 ≤ msg → msg < f.msgs.length → ChkAt w cb fb f → RdB All w v l → l.length ≤ 1099511627776 → Tabs w →
  Calls Tryz.prog 39 #[.pointer (some ⟨cb, 0, none⟩), .int .i64 msg, v, .int .i64 (13 - k)] w fun e w' => ∃ vv vu, e = .returned (.tuple #[.agg #[vv, vu], .int .i64 (readC f k msg l).2]) ∧ DBodF (k + 1) (From w.heap.size) w' (readC f k msg l).1 [vv, vu] ∧ Up w w'
set_option maxRecDepth 100000 in
set_option maxHeartbeats 3200000 in
theorem rvalue_sub (k : Nat) (f : Fil) (ih : RBodC k f) (x : Fld) (r : Rec) (cb fb bf fo b o c3 : Nat) (a3 : Option Addr) (w : World) (hk13 : k ≤ 12) (hc : ChkAt w cb fb f) (hx : FldAt w bf fo x) (h1 : w.cell? ⟨b, o + 1, none⟩ = some (.int .i64 r.how)) (h3 : w.cell? ⟨b, o + 3, none⟩ = some (.slice a3 r.bytes.length c3))
    (hr : RdB All w (.slice a3 r.bytes.length c3) r.bytes) (hbl : r.bytes.length ≤ 1099511627776) (hT : Tabs w) (hk : x.kind = 10) (hh : r.how = 2) (hm0 : 0 ≤ msgI f x.type) :
    Calls Tryz.prog 70 #[.pointer (some ⟨cb, 0, none⟩), .pointer (some ⟨bf, fo, none⟩), .pointer (some ⟨b, o, none⟩), .int .i64 (12 - k)] w fun e w' => ∃ v3, e = .returned (.tuple #[.agg #[.int .i64 x.number, .slice none 0 0, .slice none 0 0, v3], .bool (decide ((readC f k (msgI f x.type) r.bytes).2 = 0)), .int .i64 (readC f k (msgI f x.type) r.bytes).2]) ∧ RdS (DBodF (k + 1)) 2 (From (w.heap.size + 2)) w' v3 (if (readC f k (msgI f x.type) r.bytes).2 = 0 then [(readC f k (msgI f x.type) r.bytes).1] else []) ∧ Up w w' := by
  have hmb := msgI_bd f x.type
  have hm1 : msgI f x.type < f.msgs.length := by omega
  have hhw := how_c x.kind
  rw [hk] at hhw
  have Hhw := Lib.hid hhw
  obtain ⟨hcc, vm, ve, hcm, hce, hfv⟩ := id hc
  obtain ⟨vm', ve', he', hm', he''⟩ := id hfv
  simp only [Value.agg.injEq, Array.mk.injEq, List.cons.injEq, and_true] at he'
  obtain ⟨rfl, rfl⟩ := he'
  obtain ⟨ma, mc, rfl, _, _⟩ := hm'.val
  obtain ⟨ea, ec, rfl, _, _⟩ := he''.val
  clear hm' he''
  have Hmsg := Lib.hid (fun W (u : Up w W) => find_msg_l (.agg #[.slice ma f.msgs.length mc, .slice ea f.enums.length ec]) f x.type W (hfv.up u))
  change Hid (∀ W, Up w W → Calls _ _ _ _ fun e w' => e = Ending.returned (.int .i64 (msgI f x.type)) ∧ Up W w') at Hmsg
  have Hbod := Lib.hid (fun W (u : Up w W) => ih (msgI f x.type) r.bytes _ cb fb W hm0 hm1 (hc.up u) (hr.up stable_u8 u) hbl (hT.up u))
  obtain ⟨hxb, ⟨x0, x1, x2, x3, x4, x5⟩, hxd⟩ := hx
  rw [hk] at x2
  rw [hh] at h1
  have hdp : IntKind.i64.wrap ((12 : Int) - (k : Int) + 1) = 13 - (k : Int) := by rw [IntKind.wrap_i64]; omega
  have u2 := ((Up.refl w).alloc (.cells #[.int .i64 0, .slice none 0 0, .slice none 0 0, .slice none 0 0] 53)).alloc (.cells #[.int .i64 x.number, .slice none 0 0, .slice none 0 0, .slice none 0 0] 53)
  have hb := World.block_lt_of_cell? w _ h1
  simp only at hb
  have hb1 : bf ≠ w.heap.size := by omega
  have hb2 : bf ≠ w.heap.size + 1 := by omega
  have g1 := u2.cell_some h1
  have g2 := u2.cell_some x2
  have HP := Lib.hid (fun W (u : Up w W) => (⟨u.cell_some hcc, u.cell_some hcm, u.cell_some hce, u.cell_some x3, u.cell_some h3⟩ : (W.cell? ⟨cb, 0, none⟩ = some (.pointer (some ⟨fb, 0, none⟩)) ∧ W.cell? ⟨fb, 0, none⟩ = some (.slice ma f.msgs.length mc) ∧ W.cell? ⟨fb, 1, none⟩ = some (.slice ea f.enums.length ec) ∧ W.cell? ⟨bf, fo + 3, none⟩ = some (.string ⟨x.type.toArray⟩) ∧ W.cell? ⟨b, o + 3, none⟩ = some (.slice a3 r.bytes.length c3))))
  clear hk hh x0 x4 x5 hxd hhw hr hT hfv hc ih
  generalize readC f k (msgI f x.type) r.bytes = RC at *
  generalize msgI f x.type = mi at *
  go_enter Tryz.func70, Tryz.ntmps70
  go_upto_region 9 with (go_at_call 21; go_must (refine (Hhw.out _).mono ?_; rintro e w1 ⟨rfl, hw1⟩; subst hw1))
  have hk0 : ((w.alloc (.cells #[.int .i64 0, .slice none 0 0, .slice none 0 0, .slice none 0 0] 53)).alloc (.cells #[.int .i64 x.number, .slice none 0 0, .slice none 0 0, .slice none 0 0] 53)).heap[w.heap.size]? = some (.cells #[.int .i64 0, .slice none 0 0, .slice none 0 0, .slice none 0 0] 53 (0, 0)) := blk_old _ (blk_new w _ rfl)
  have hk1 : ((w.alloc (.cells #[.int .i64 0, .slice none 0 0, .slice none 0 0, .slice none 0 0] 53)).alloc (.cells #[.int .i64 x.number, .slice none 0 0, .slice none 0 0, .slice none 0 0] 53)).heap[w.heap.size + 1]? = some (.cells #[.int .i64 x.number, .slice none 0 0, .slice none 0 0, .slice none 0 0] 53 (0, 0)) := blk_new (w.alloc _) _ (by simp)
  clear g1 g2 h1 h3 x1 x2 x3 hcc hcm hce
  generalize hW : (w.alloc (.cells #[.int .i64 0, .slice none 0 0, .slice none 0 0, .slice none 0 0] 53)).alloc (.cells #[.int .i64 x.number, .slice none 0 0, .slice none 0 0, .slice none 0 0] 53) = W at *
  have dd : (W.drew.cell? ⟨cb, 0, none⟩ = some (.pointer (some ⟨fb, 0, none⟩)) ∧ W.drew.cell? ⟨fb, 0, none⟩ = some (.slice ma f.msgs.length mc) ∧ W.drew.cell? ⟨fb, 1, none⟩ = some (.slice ea f.enums.length ec) ∧ W.drew.cell? ⟨bf, fo + 3, none⟩ = some (.string ⟨x.type.toArray⟩) ∧ W.drew.cell? ⟨b, o + 3, none⟩ = some (.slice a3 r.bytes.length c3)) := HP.out _ u2.drew
  have Hz2 := Lib.hid (show W.heap.size = w.heap.size + 2 by rw [← hW]; simp)
  clear hW
  go_cut [14, 15] (fun p e wc => ∃ (G : Nat) (s1 s2 : Option Addr) (n1 c1 n2 c2 : Nat), p = .pointer (some ⟨G, 0, none⟩) ∧ e = .int .i64 RC.2 ∧ wc.heap[G]? = some (.cells #[.slice s1 n1 c1, .slice s2 n2 c2] 29 (0, 0)) ∧ DBodF (k + 1) (fun b => w.heap.size + 2 ≤ b ∧ b ≠ G) wc RC.1 [.slice s1 n1 c1, .slice s2 n2 c2] ∧ w.heap.size + 2 ≤ G ∧ Up W wc)
  case first =>
    go_region_held3 (fun w' => (w'.cell? ⟨cb, 0, none⟩ = some (.pointer (some ⟨fb, 0, none⟩)) ∧ w'.cell? ⟨fb, 0, none⟩ = some (.slice ma f.msgs.length mc) ∧ w'.cell? ⟨fb, 1, none⟩ = some (.slice ea f.enums.length ec) ∧ w'.cell? ⟨bf, fo + 3, none⟩ = some (.string ⟨x.type.toArray⟩) ∧ w'.cell? ⟨b, o + 3, none⟩ = some (.slice a3 r.bytes.length c3)))
      (first | with_reducible exact dd | with_reducible exact HP.out _ (Up.setCell (Up.setCell (hu6.alloc _) (show w.heap.size ≤ w6.heap.size from hu6.size) _) (show w.heap.size ≤ w6.heap.size from hu6.size) _) | with_reducible exact HP.out _ (Up.setCell (Up.setCell hu6 (show w.heap.size ≤ w5.heap.size from hu5.size) _) (show w.heap.size ≤ w5.heap.size from hu5.size) _) | with_reducible exact HP.out _ (Up.setCell (Up.setCell hu6 (show w.heap.size ≤ W.heap.size from u2.size) _) (show w.heap.size ≤ W.heap.size from u2.size) _) | with_reducible exact HP.out _ (hu6.alloc _) | with_reducible exact HP.out _ hu6 | with_reducible exact HP.out _ (hu5.alloc _) | with_reducible exact HP.out _ hu5 | with_reducible exact HP.out _ (u2.alloc _).drew | with_reducible exact HP.out _ (u2.drew.alloc _))
      (first
        | (go_at_call 81
           first
             | (refine (Hmsg.out _ u2.drew).mono ?_; rintro e w5 ⟨rfl, hu5'⟩; have hu5 := u2.drew.trans hu5'; have hw5 := (Up.refl W).drew.trans hu5')
             | (refine (Hmsg.out _ (u2.alloc _).drew).mono ?_; rintro e w5 ⟨rfl, hu5'⟩; have hu5 := (u2.alloc _).drew.trans hu5'; have hw5 := ((Up.refl W).alloc _).drew.trans hu5'; have hg5 : w5.heap[W.heap.size]? = some (.cells #[.slice none 0 0, .slice none 0 0] 29 (0, 0)) := hu5'.blk (blk_new W _ rfl)))
        | (go_at_call 39
           first
             | (refine (Hbod.out _ hu5).mono ?_; rintro e w6 ⟨vv, vu, rfl, hd6, hu6'⟩; obtain ⟨s1, n1, c1, s2, n2, c2, hbt⟩ := bod_two hd6; simp only [List.cons.injEq, and_true] at hbt; obtain ⟨rfl, rfl⟩ := hbt; have hu6 := hu5.trans hu6'; have hw6 := hw5.trans hu6'; try (have hg6 : w6.heap[W.heap.size]? = some (.cells #[.slice none 0 0, .slice none 0 0] 29 (0, 0)) := hu6'.blk hg5; have q0 : w6.cell? ⟨W.heap.size, 0, none⟩ = some (.slice none 0 0) := cell_of_row w6 _ 0 _ _ _ hg6; have q1 : w6.cell? ⟨W.heap.size, 1, none⟩ = some (.slice none 0 0) := cell_of_row w6 _ 1 _ _ _ hg6; have qf : ∀ o, w6.frozen? ⟨W.heap.size, o, none⟩ = false := (fun o => frozen_of_row w6 _ o _ _ hg6); have qz : W.heap.size < w6.heap.size := lt_of_block hg6))
             | (refine (Hbod.out _ (hu5.alloc _)).mono ?_; rintro e w6 ⟨vv, vu, rfl, hd6, hu6'⟩; obtain ⟨s1, n1, c1, s2, n2, c2, hbt⟩ := bod_two hd6; simp only [List.cons.injEq, and_true] at hbt; obtain ⟨rfl, rfl⟩ := hbt; have hu6 := (hu5.alloc _).trans hu6'; have hw6 := (hw5.alloc _).trans hu6'; have hg6 : w6.heap[w5.heap.size]? = some (.cells #[.slice none 0 0, .slice none 0 0] 29 (0, 0)) := hu6'.blk (blk_new w5 _ rfl); have q0 : w6.cell? ⟨w5.heap.size, 0, none⟩ = some (.slice none 0 0) := cell_of_row w6 _ 0 _ _ _ hg6; have q1 : w6.cell? ⟨w5.heap.size, 1, none⟩ = some (.slice none 0 0) := cell_of_row w6 _ 1 _ _ _ hg6; have qf : ∀ o, w6.frozen? ⟨w5.heap.size, o, none⟩ = false := (fun o => frozen_of_row w6 _ o _ _ hg6); have qz : w5.heap.size < w6.heap.size := lt_of_block hg6)))
    all_goals
      go_wp2_with fail
      go_meet
    · exact ⟨w6.heap.size, s1, s2, n1, c1, n2, c2, rfl, rfl, blk_new w6 _ rfl, stable_bod _ _ _ _ _ _ _ (fun b hs hb => ⟨((Up.refl w6).alloc _).block b hb, by have := hw5.size; have := Hz2.out; have : w5.heap.size ≤ b := hs; omega, by omega⟩) hd6, by have := hw6.size; have := Hz2.out; omega, hw6.alloc _⟩
    · exact ⟨w5.heap.size, s1, s2, n1, c1, n2, c2, rfl, rfl, box2_set hg6 _ _, stable_bod _ _ _ _ _ _ _ (fun b hs hb => by
        have hs' : w5.heap.size + 1 ≤ b := by simpa using hs
        exact ⟨box2_other (by omega) _ _, by have := hw5.size; have := Hz2.out; omega, by omega⟩) hd6, by have := hw5.size; have := Hz2.out; omega, Up.setCell (Up.setCell hw6 (show W.heap.size ≤ w5.heap.size from hw5.size) _) (show W.heap.size ≤ w5.heap.size from hw5.size) _⟩
    · exact ⟨W.heap.size, s1, s2, n1, c1, n2, c2, rfl, rfl, box2_set hg6 _ _, stable_bod _ _ _ _ _ _ _ (fun b hs hb => by
        have hs' : w5.heap.size ≤ b := hs
        have h5 := lt_of_block hg5
        exact ⟨box2_other (by omega) _ _, by have := Hz2.out; omega, by omega⟩) hd6, by have := Hz2.out; omega, Up.setCell (Up.setCell hw6 (Nat.le_refl W.heap.size) _) (Nat.le_refl W.heap.size) _⟩
  case rest =>
  obtain ⟨G, s1, s2, n1, c1, n2, c2, rfl, rfl, hG, hdG, hzG, huW⟩ := hcut
  have k0 := huW.blk hk0
  have k1 := huW.blk hk1
  have HuW := Lib.hid (u2.trans huW); have HG := Lib.hid hG; have HdG := Lib.hid hdG; have HzG := Lib.hid hzG
  have z0 : wc.cell? ⟨w.heap.size, 0, none⟩ = some (.int .i64 0) := cell_of_row wc _ 0 _ _ _ k0
  have z1 : wc.cell? ⟨w.heap.size, 1, none⟩ = some (.slice none 0 0) := cell_of_row wc _ 1 _ _ _ k0
  have z2 : wc.cell? ⟨w.heap.size, 2, none⟩ = some (.slice none 0 0) := cell_of_row wc _ 2 _ _ _ k0
  have z3 : wc.cell? ⟨w.heap.size, 3, none⟩ = some (.slice none 0 0) := cell_of_row wc _ 3 _ _ _ k0
  have y0 : wc.cell? ⟨w.heap.size + 1, 0, none⟩ = some (.int .i64 x.number) := cell_of_row wc _ 0 _ _ _ k1
  have y1 : wc.cell? ⟨w.heap.size + 1, 1, none⟩ = some (.slice none 0 0) := cell_of_row wc _ 1 _ _ _ k1
  have y2 : wc.cell? ⟨w.heap.size + 1, 2, none⟩ = some (.slice none 0 0) := cell_of_row wc _ 2 _ _ _ k1
  have y3 : wc.cell? ⟨w.heap.size + 1, 3, none⟩ = some (.slice none 0 0) := cell_of_row wc _ 3 _ _ _ k1
  have f0 : ∀ o, wc.frozen? ⟨w.heap.size, o, none⟩ = false := fun o => frozen_of_row wc _ o _ _ k0
  have f1 : ∀ o, wc.frozen? ⟨w.heap.size + 1, o, none⟩ = false := fun o => frozen_of_row wc _ o _ _ k1
  have g0 : wc.cell? ⟨G, 0, none⟩ = some (.slice s1 n1 c1) := cell_of_row wc _ 0 _ _ _ hG
  have g1 : wc.cell? ⟨G, 1, none⟩ = some (.slice s2 n2 c2) := cell_of_row wc _ 1 _ _ _ hG
  have q0 := lt_of_block k0
  have q1 := lt_of_block k1
  have qG := lt_of_block hG
  have ne0 : w.heap.size ≠ wc.heap.size := by omega
  have ne1 : w.heap.size + 1 ≠ wc.heap.size := by omega
  have neG : G ≠ wc.heap.size := by omega
  obtain ⟨RB, re⟩ := RC
  simp only at HdG ⊢
  clear hk0 hk1 k0 k1 hG hdG hzG huW u2 dd Hmsg Hbod HP Hhw Hz2
  by_cases hre : re = 0
  · subst hre
    go_wp2_with fail
    refine bodyPost_ret (v := .tuple #[.agg #[.int .i64 x.number, .slice none 0 0, .slice none 0 0, .slice (some ⟨wc.heap.size, 0, none⟩) 1 1], .bool true, .int .i64 0]) (by simp [results, Tryz.results70, go_sem, z0, z1, z2, z3, q0]) rfl ?_
    refine ⟨_, rfl, ?_, ?_⟩
    · refine rd_one (t := 29) (vv := .slice s1 n1 c1) (vu := .slice s2 n2 c2) (blk_new _ _ (by simp)) (show w.heap.size + 2 ≤ wc.heap.size by have := HzG.out; omega) ?_
      refine stable_bod (k + 1) (From (w.heap.size + 2)) _ _ _ _ _ (fun b hs hb => ⟨((Up.refl _).alloc _).block b hb, hs⟩) ?_
      refine stable_bod (k + 1) _ _ _ _ _ _ ?_ HdG.out
      repeat (with_reducible refine Keep.trans ?_ (Keep.setCell ?_ _))
      · exact fun b hs hb => ⟨rfl, hs.1⟩
      all_goals (show ¬ (w.heap.size + 2 ≤ _); simp)
    · refine Up.alloc ?_ _
      repeat (with_reducible refine Up.setCell ?_ ?_ _)
      · exact HuW.out
      all_goals simp
  · have hne : (re != 0) = true := by rw [bne_iff_ne]; exact hre
    have Hre := Lib.hid hre
    clear hre
    go_wp2_with fail
    refine bodyPost_ret (v := .tuple #[.agg #[.int .i64 x.number, .slice none 0 0, .slice none 0 0, .slice none 0 0], .bool false, .int .i64 re]) (by simp [results, Tryz.results70, go_sem, z0, z1, z2, z3]) rfl ?_
    refine ⟨.slice none 0 0, rfl, rdS_nil _ _ _ _, ?_⟩
    repeat (with_reducible refine Up.setCell ?_ ?_ _)
    · exact HuW.out
    all_goals simp
end Go.Proofs.YtbceapeoknngnaaGreatDoor
set_option linter.unusedVariables false
namespace Go.Proofs.YtbceapeoknngnaaGreatDoor
open Go.RowKit
set_option maxRecDepth 100000 in
set_option maxHeartbeats 800000 in
theorem add_sized (base : Nat) (v : Value) (l : List UInt8) (number : Int) (bytes : List UInt8) (vb : Value) (w : World) (hv : RdB (Av v) w vb bytes) (n1 : 1 ≤ number) (n2 : number < 536870912) (hl : l.length + bytes.length ≤ 1099511627776 - 8200)
    (hown : w.ownsRow base 5 1 v l.length (B8 l)) (hb : base ≤ w.heap.size) :
    Calls Tryz.prog 59 #[v, .agg #[.int .i64 number, .int .i64 2, .int .u64 0, vb]] w fun e w' => ∃ v', e = .returned v' ∧ w'.ownsRow base 5 1 v' (l ++ oneB ⟨number, 2, 0, bytes⟩).length (B8 (l ++ oneB ⟨number, 2, 0, bytes⟩)) ∧ Evo w w' v v' := by
  obtain ⟨ao, cap, rfl, hc1, hc2⟩ := hv.val
  have htl := tagB_length number.toNat 2 (by omega) (by omega)
  have Hv := Lib.hid hv; clear hv
  have Hown := Lib.hid hown; clear hown
  have Hl := Lib.hid hl
  go_enter Tryz.func59, Tryz.ntmps59
  go_wp2_with fail
  refine (tag_own base _ l number 2 _ (by omega) (by omega) (by omega) (by omega) (by omega) (Hown.out.alloc _) (by simp; omega)).mono ?_
  rintro e w1 ⟨v1, rfl, how1, hev1⟩
  have hblk := Evo.box hev1 (fun k hk => (Hown.out.lt k hk).2)
  have c1 : w1.cell? ⟨w.heap.size, 1, none⟩ = some (.int .i64 2) := cell_of_row w1 _ 1 _ _ _ hblk
  have c3 : w1.cell? ⟨w.heap.size, 3, none⟩ = some (.slice ao bytes.length cap) := cell_of_row w1 _ 3 _ _ _ hblk
  have hs1 : w.heap.size < w1.heap.size := by have := hev1.grown.size; simp at this; omega
  have hlt : (l ++ tagB number.toNat (Int.toNat 2)).length ≤ l.length + 5 := by simp only [List.length_append]; have : Int.toNat 2 = 2 := rfl; rw [this]; omega
  have Hblk := Lib.hid hblk; clear hblk
  have hev := Evo.of_alloc hev1
  have Hev := Lib.hid hev; clear hev
  have How1 := Lib.hid how1; clear how1
  have Hlt := Lib.hid hlt; clear hlt
  have Hv1 := Lib.hid (Hv.out.keep stable_u8 (Keep.evo Hev.out))
  have hne : v1.ownBlock ≠ some w.heap.size := fun e => by
    rcases How1.out.2 with ⟨rfl, _⟩ | ⟨g, cap', cur, rfl, _, hg, _⟩
    · cases e
    · simp only [Value.ownBlock, Option.some.injEq] at e
      subst e
      rw [Hblk.out] at hg
      simp at hg
  have Hne := Lib.hid hne; clear hne
  have hsum : (l ++ tagB number.toNat (Int.toNat 2) ++ Lib.uvarint bytes.length).length + bytes.length ≤ 1099511627776 + 100 := by
    have h1 := Hlt.out
    have h2 := Lib.uvarint_length64 (x := bytes.length) (by omega)
    rw [List.length_append]
    omega
  have Hsum := Lib.hid hsum; clear hsum
  clear hev1 htl hl
  go_wp2_with fail
  go_region_held3 (fun w' => w'.cell? ⟨w.heap.size, 3, none⟩ = some (.slice ao bytes.length cap)) (first | go_keep | exact cell_of_row _ _ 3 _ _ _ (hev2.undrew.blk Hblk.out Hne.out) | exact cell_of_row _ _ 3 _ _ _ ((hev2.undrew.trans hev3).blk Hblk.out Hne.out))
    (first | (go_at_call 109; refine (put_eq base _ _ _ bytes.length _ (by rw [IntKind.wrap_u64]; omega) (by omega) (by have := Hlt.out; have := Hl.out; omega) How1.out.drew (by simp; omega)).mono ?_; rintro e w2 ⟨v2, rfl, how2, hev2⟩; have Hrd2 := Lib.hid (RdB.news (Hv1.out.keep stable_u8 (Keep.evo hev2.undrew))); have hs2 : base ≤ w2.heap.size := by have h9 := hev2.undrew.grown.size; omega) | (refine step_app eU8 _ (by rfl) _ _ (by rfl) base v2 _ _ (by rfl) how2 ao bytes.length cap (by rfl) (B8 bytes) (by simp [B8]) (Hrd2.out.2.1) (Hrd2.out.2.2) (B8_one _) (by have := Hsum.out; omega) (by have := Hsum.out; unfold maxLen; omega) (by omega) ?_; intro v3 w3 how3 hev3))
  go_wp2_with fail
  go_ret
  refine ⟨_, rfl, ?_, Hev.out.trans (hev2.undrew.trans hev3)⟩
  have e : l ++ oneB ⟨number, 2, 0, bytes⟩ = l ++ tagB number.toNat (Int.toNat 2) ++ Lib.uvarint bytes.length ++ bytes := by simp [oneB]
  rw [e, List.length_append, B8_append]
  exact how3
end Go.Proofs.YtbceapeoknngnaaGreatDoor
set_option linter.unusedVariables false
namespace Go.Proofs.YtbceapeoknngnaaGreatDoor
open Go.RowKit
set_option maxRecDepth 100000 in
set_option maxHeartbeats 800000 in
theorem sized_c (base : Nat) (v : Value) (l : List UInt8) (bx bf fo : Nat) (num : Int) (bytes : List UInt8) (vd : Value) (w : World) (hbx : w.cell? ⟨bx, 0, none⟩ = some (.pointer (some ⟨bf, fo, none⟩))) (hn : w.cell? ⟨bf, fo + 1, none⟩ = some (.int .i64 num))
    (hv : RdB (Av v) w vd bytes) (n1 : 1 ≤ num) (n2 : num < 536870912) (hl : l.length + bytes.length ≤ 1099511627776 - 8200)
    (hown : w.ownsRow base 5 1 v l.length (B8 l)) (hb : base ≤ w.heap.size) :
    Calls Tryz.prog 118 (#[v, vd] ++ #[.pointer (some ⟨bx, 0, none⟩)]) w fun e w' => ∃ v', e = .returned v' ∧ w'.ownsRow base 5 1 v' (l ++ oneB ⟨num, 2, 0, bytes⟩).length (B8 (l ++ oneB ⟨num, 2, 0, bytes⟩)) ∧ Evo w w' v v' := by
  show Calls Tryz.prog 118 #[v, vd, .pointer (some ⟨bx, 0, none⟩)] w _
  obtain ⟨ao, cap, rfl, _, _⟩ := hv.val
  have Hadd := Lib.hid (add_sized base v l num bytes _ w hv n1 n2 hl hown hb)
  clear hv hown
  go_enter Tryz.func118, Tryz.ntmps118
  go_wp2_with (go_at_call 59; go_must (refine Hadd.out.mono ?_; rintro e w1 ⟨v1, rfl, how1, hev1⟩))
  go_ret
  exact ⟨_, rfl, how1, hev1⟩
abbrev WBodC (k d : Nat) (f : Fil) : Prop := ∀ (msg : Int) (x : Bod) (cb fb b o : Nat) (w : World), 0 ≤ msg → msg < f.msgs.length → ChkAt w cb fb f → BodAt d w b o x → wrongB f k msg x = 0 → (rawB f k msg x).length ≤ 1099511627776 - 8200 →
  Calls Tryz.prog 37 #[.pointer (some ⟨cb, 0, none⟩), .int .i64 msg, .pointer (some ⟨b, o, none⟩)] w fun e w' => ∃ v', e = .returned v' ∧ w'.ownsRow w.heap.size 5 1 v' (rawB f k msg x).length (B8 (rawB f k msg x)) ∧ Up w w'
def rec1 (x : Fld) (n : Nat) : List UInt8 := oneB ⟨x.number, howC x.kind, toldC x.kind n, []⟩
def recS (num : Int) (t : List UInt8) : List UInt8 := oneB ⟨num, 2, 0, t⟩
theorem val_flat (sub : Bod → List UInt8) (x : Fld) (v : Val) (h : ¬ (x.many = true ∧ howC x.kind ≠ 2)) : (valRecs sub x v).flatMap oneB = v.2.1.flatMap (rec1 x) ++ (v.2.2.1.flatMap (recS x.number) ++ v.2.2.2.flatMap (fun s => recS x.number (sub s))) := by
  unfold valRecs
  rw [if_neg h, List.flatMap_append, List.flatMap_append, List.flatMap_map, List.flatMap_map, List.flatMap_map]
  rfl
theorem val_pack (sub : Bod → List UInt8) (x : Fld) (v : Val) (h : x.many = true ∧ howC x.kind ≠ 2) : (valRecs sub x v).flatMap oneB = recS x.number (packC x.kind v.2.1) := by
  unfold valRecs
  rw [if_pos h]
  simp [recS]
theorem take_flat {α : Type} (g : α → List UInt8) {L : List α} {k : Nat} (h : k < L.length) : (L.take (k + 1)).flatMap g = (L.take k).flatMap g ++ g L[k] := by
  rw [List.take_succ_eq_append_getElem h, List.flatMap_append]; simp
theorem flat_le {α : Type} (g : α → List UInt8) (L : List α) (k : Nat) : ((L.take k).flatMap g).length ≤ (L.flatMap g).length := by
  have : L.flatMap g = (L.take k).flatMap g ++ (L.drop k).flatMap g := by rw [← List.flatMap_append, List.take_append_drop]
  rw [this, List.length_append]; omega
theorem own_ne {base g n : Nat} {w : World} {v : Value} {l : List Value} {cs : Array Value} {t : TypeId} (h : w.ownsRow base 5 1 v n l) (hg : w.heap[g]? = some (.cells cs t (0, 0))) (ht : t ≠ 5) : v.ownBlock ≠ some g := fun e => by
  rcases h.2 with ⟨rfl, _⟩ | ⟨g', cap', cur, rfl, _, hg', _⟩
  · cases e
  · simp only [Value.ownBlock, Option.some.injEq] at e
    subst e
    rw [hg] at hg'
    simp only [Option.some.injEq, Obj.cells.injEq] at hg'
    exact ht hg'.2.1
theorem evo_cell {w w' : World} {v v' : Value} (h : Evo w w' v v') {a : Addr} {u : Value} (hc : w.cell? a = some u) (hne : v.ownBlock ≠ some a.block) : w'.cell? a = some u :=
  (World.cell?_of_block (w := w) (h.grown.block a.block (World.block_lt_of_cell? w a hc) (fun e => hne e.symm))).trans hc
end Go.Proofs.YtbceapeoknngnaaGreatDoor
set_option linter.unusedVariables false
namespace Go.Proofs.YtbceapeoknngnaaGreatDoor
open Go.RowKit
theorem recS_len (num : Int) (t : List UInt8) : t.length ≤ (recS num t).length := by
  unfold recS oneB
  simp only [List.length_append]
  split <;> simp <;> omega
theorem evo_up {w w' : World} {v : Value} (h : Up w w') : Evo w w' v v := ⟨⟨h.os, h.tape, h.output, h.size, fun k hk _ => h.block k hk⟩, fun _ e => .inl e⟩
set_option maxRecDepth 100000 in
set_option maxHeartbeats 6400000 in
theorem wvalue_pack (k : Nat) (f : Fil) (x : Fld) (v : Val) (cb bf fo b o base : Nat) (vb : Value) (l : List UInt8) (a1 : Option Addr) (c1 : Nat) (w0 w : World) (hu0 : Up w0 w) (hbs : w0.heap.size ≤ base)
    (hx : FldAt w0 bf fo x) (h1 : w0.cell? ⟨b, o + 1, none⟩ = some (.slice a1 v.2.1.length c1)) (hr1 : RdS DU64 1 All w0 (.slice a1 v.2.1.length c1) v.2.1) (n1 : 1 ≤ x.number) (n2 : x.number < 536870912)
    (hm : x.many = true) (hh : howC x.kind ≠ 2) (hbit : ∀ n ∈ v.2.1, n < 18446744073709551616 ∧ (x.kind = 7 → n < 4294967296))
    (hlen : (l ++ recS x.number (packC x.kind v.2.1)).length ≤ 1099511627776 - 8200)
    (hown : w.ownsRow base 5 1 vb l.length (B8 l)) (hb : base ≤ w.heap.size) :
    Calls Tryz.prog 65 #[.pointer (some ⟨cb, 0, none⟩), vb, .pointer (some ⟨bf, fo, none⟩), .pointer (some ⟨b, o, none⟩)] w fun e w' => ∃ v', e = .returned v' ∧ w'.ownsRow base 5 1 v' (l ++ recS x.number (packC x.kind v.2.1)).length (B8 (l ++ recS x.number (packC x.kind v.2.1))) ∧ Evo w w' vb v' := by
  obtain ⟨ab, cbp, rfl, _, _⟩ := (rdB_of_owns (S := All) hown (fun _ _ => trivial)).val
  have hmf : ∀ (fn : Fn) (first cap : Array Value) (w : World), (Instr.makeFunc fn first cap).run Tryz.prog w = .ok (.func fn first cap) w := fun _ _ _ _ => rfl
  obtain ⟨hxb, ⟨x0, x1, x2, x3, x4, x5⟩, hxd⟩ := hx
  rw [hm] at x4
  have ub := hu0.alloc (.cells #[.pointer (some ⟨bf, fo, none⟩)] 64)
  have y1 := ub.cell_some x1
  have y2 := ub.cell_some x2
  have y4 := ub.cell_some x4
  have y8 := ub.cell_some h1
  have Hpk := Lib.hid (fun W (u : Up w0 W) => pack_c x.kind _ v.2.1 W hh hbit (by have := recS_len x.number (packC x.kind v.2.1); rw [List.length_append] at hlen; omega) (hr1.up stable_u64 u))
  have hhw := Lib.hid (how_c x.kind)
  have Hl := Lib.hid hlen; clear hlen
  have Hown := Lib.hid hown; clear hown
  have hne2 : (howC x.kind != 2) = true := by rw [bne_iff_ne]; exact hh
  have hlt1 : b < w.heap.size := Nat.lt_of_lt_of_le (World.block_lt_of_cell? w0 _ h1) hu0.size
  have hlt2 : bf < w.heap.size := Nat.lt_of_lt_of_le hxb hu0.size
  clear hr1 hxd hbit x0 x3 x5 hh
  generalize howC x.kind = hw at *
  generalize packC x.kind v.2.1 = pk at *
  go_enter Tryz.func65, Tryz.ntmps65
  go_upto_region 3 with (go_at_call 21; go_must (refine (hhw.out _).mono ?_; rintro e w1 ⟨rfl, rfl⟩))
  have hbx : (w.alloc (.cells #[.pointer (some ⟨bf, fo, none⟩)] 64)).heap[w.heap.size]? = some (.cells #[.pointer (some ⟨bf, fo, none⟩)] 64 (0, 0)) := heap_alloc_new w _
  have how := Hown.out.alloc (.cells #[.pointer (some ⟨bf, fo, none⟩)] 64)
  have hev0 : Evo w (w.alloc (.cells #[.pointer (some ⟨bf, fo, none⟩)] 64)) (.slice ab l.length cbp) (.slice ab l.length cbp) := Evo.of_alloc (Evo.refl _ _)
  have hz : w.heap.size < (w.alloc (.cells #[.pointer (some ⟨bf, fo, none⟩)] 64)).heap.size := by simp
  generalize w.alloc (.cells #[.pointer (some ⟨bf, fo, none⟩)] 64) = W at *
  have yb : W.cell? ⟨w.heap.size, 0, none⟩ = some (.pointer (some ⟨bf, fo, none⟩)) := cell_of_row W _ 0 _ _ _ hbx
  have dd : W.drew.cell? ⟨w.heap.size, 0, none⟩ = some (.pointer (some ⟨bf, fo, none⟩)) ∧ W.drew.cell? ⟨bf, fo + 2, none⟩ = some (.int .i64 x.kind) ∧ W.drew.cell? ⟨b, o + 1, none⟩ = some (.slice a1 v.2.1.length c1) := ⟨yb, y2, y8⟩
  have DD := Lib.hid (fun W2 (u : Up W W2) => (⟨u.cell_some yb, u.cell_some y2, u.cell_some y8⟩ : W2.cell? ⟨w.heap.size, 0, none⟩ = some (.pointer (some ⟨bf, fo, none⟩)) ∧ W2.cell? ⟨bf, fo + 2, none⟩ = some (.int .i64 x.kind) ∧ W2.cell? ⟨b, o + 1, none⟩ = some (.slice a1 v.2.1.length c1)))
  have nb := own_ne how hbx (by decide)
  have nf : (Value.slice ab l.length cbp).ownBlock ≠ some bf := fun e => by have := (Hown.out.lt bf e).1; omega
  have nv : (Value.slice ab l.length cbp).ownBlock ≠ some b := fun e => by have h2 := (Hown.out.lt b e).1; have h3 := World.block_lt_of_cell? w0 _ h1; simp only at h3; omega
  have DE := Lib.hid (fun W2 (u : Up W W2) W3 v' (h : Evo W2 W3 (.slice ab l.length cbp) v') => (⟨evo_cell h (u.cell_some yb) nb, evo_cell h (u.cell_some y2) nf, evo_cell h (u.cell_some y8) nv⟩ : W3.cell? ⟨w.heap.size, 0, none⟩ = some (.pointer (some ⟨bf, fo, none⟩)) ∧ W3.cell? ⟨bf, fo + 2, none⟩ = some (.int .i64 x.kind) ∧ W3.cell? ⟨b, o + 1, none⟩ = some (.slice a1 v.2.1.length c1)))
  have Hsz := Lib.hid (fun W2 (u : Up W W2) vd (hvd : W2.ownsRow W.drew.heap.size 5 1 vd pk.length (B8 pk)) => sized_c base (.slice ab l.length cbp) l w.heap.size bf fo x.number pk vd W2 (u.cell_some yb) (u.cell_some y1) (rdB_of_owns hvd (fun j hj e => by have h1 := (hvd.lt j hj).1; have h2 := (how.lt j e).2; simp at h1; omega)) n1 n2 (by have h3 := Hl.out; have := recS_len x.number pk; rw [List.length_append] at h3; omega) (how.kept u.to_none (Classical.em _)) (by have := u.size; omega))
  go_region_held3 (fun w' => w'.cell? ⟨w.heap.size, 0, none⟩ = some (.pointer (some ⟨bf, fo, none⟩)) ∧ w'.cell? ⟨bf, fo + 2, none⟩ = some (.int .i64 x.kind) ∧ w'.cell? ⟨b, o + 1, none⟩ = some (.slice a1 v.2.1.length c1))
    (first | with_reducible exact dd | with_reducible exact DE.out _ hu5 _ _ hev6 | with_reducible exact DD.out _ hu5)
    (first | (go_at_call 119; refine (Hpk.out _ ub.drew).mono ?_; rintro e w5 ⟨vd, rfl, how5, hu5'⟩; have hu5 := ((Up.refl W).drew).trans hu5') | (go_at_call 118; refine (Hsz.out _ hu5 vd how5).mono ?_; rintro e w6 ⟨v6, rfl, how6, hev6⟩))
  all_goals
    go_wp2_with fail
    go_ret
    exact ⟨_, rfl, how6, hev0.trans ((evo_up hu5).trans hev6)⟩
end Go.Proofs.YtbceapeoknngnaaGreatDoor
