/-
  (*reader).value, of a message.
  (*reader).value: what a record tells of a field.
  A region that draws its order, and whose last operations wait for all the others, and for one another: these by themselves.
-/
import Derived.Test.YtbceapeoknngnaaGreatDoorTx30
import Derived.Test.YtbceapeoknngnaaGreatDoorTx23
set_option linter.unusedVariables false
namespace Go.Proofs.YtbceapeoknngnaaGreatDoor
open Go.RowKit
set_option maxRecDepth 100000
open Lib (hid)
abbrev RBodC (k : Nat) (f : Fil) : Prop := ∀ (msg : Int) (l : List UInt8) (v : Value) (cb fb : Nat) (w : World), 0 ≤ msg → msg < f.msgs.length → ChkAt w cb fb f → RdB All w v l → l.length ≤ 1099511627776 → Tabs w →
 Calls Tryz.prog 39 #[.pointer (some ⟨cb, 0, none⟩), .int .i64 msg, v, .int .i64 (13 - k)] w fun e w' => ∃ vv vu, e = .returned (.tuple #[.agg #[vv, vu], .int .i64 (readC f k msg l).2]) ∧ DBodF (k + 1) (From w.heap.size) w' (readC f k msg l).1 [vv, vu] ∧ Up w w'
set_option maxHeartbeats 3200000 in
theorem rvalue_sub (k : Nat) (f : Fil) (ih : RBodC k f) (x : Fld) (r : Rec) (cb fb bf fo b o c3 : Nat) (a3 : Option Addr) (w : World) (hk13 : k ≤ 12) (hc : ChkAt w cb fb f) (hx : FldAt w bf fo x) (h1 : w.cell? ⟨b, o + 1, none⟩ = some (.int .i64 r.how)) (h3 : w.cell? ⟨b, o + 3, none⟩ = some (.slice a3 r.bytes.length c3))
   (hr : RdB All w (.slice a3 r.bytes.length c3) r.bytes) (hbl : r.bytes.length ≤ 1099511627776) (hT : Tabs w) (hk : x.kind = 10) (hh : r.how = 2) (hm0 : 0 ≤ msgI f x.type) :
   Calls Tryz.prog 70 #[.pointer (some ⟨cb, 0, none⟩), .pointer (some ⟨bf, fo, none⟩), .pointer (some ⟨b, o, none⟩), .int .i64 (12 - k)] w fun e w' => ∃ v3, e = .returned (.tuple #[.agg #[.int .i64 x.number, .slice none 0 0, .slice none 0 0, v3], .bool (decide ((readC f k (msgI f x.type) r.bytes).2 = 0)), .int .i64 (readC f k (msgI f x.type) r.bytes).2]) ∧ RdS (DBodF (k + 1)) 2 (From (w.heap.size + 2)) w' v3 (if (readC f k (msgI f x.type) r.bytes).2 = 0 then [(readC f k (msgI f x.type) r.bytes).1] else []) ∧ Up w w' := by
 have hmb := msgI_bd f x.type; (have hm1 : msgI f x.type < f.msgs.length := by omega); have hhw := how_c x.kind; rw [hk] at hhw; have Hhw := hid hhw; obtain ⟨hcc, vm, ve, hcm, hce, hfv⟩ := id hc; obtain ⟨vm', ve', he', hm', he''⟩ := id hfv; simp only [Value.agg.injEq, Array.mk.injEq, List.cons.injEq, and_true] at he'; obtain ⟨rfl, rfl⟩ := he'; obtain ⟨ma, mc, rfl, _, _⟩ := hm'.val; obtain ⟨ea, ec, rfl, _, _⟩ := he''.val; clear hm' he''; have Hmsg := hid (fun W (u : Up w W) => find_msg_l (.agg #[.slice ma f.msgs.length mc, .slice ea f.enums.length ec]) f x.type W (hfv.up u)); change Hid (∀ W, Up w W → Calls _ _ _ _ fun e w' => e = Ending.returned (.int .i64 (msgI f x.type)) ∧ Up W w') at Hmsg; have Hbod := hid (fun W (u : Up w W) => ih (msgI f x.type) r.bytes _ cb fb W hm0 hm1 (hc.up u) (hr.up stable_u8 u) hbl (hT.up u)); obtain ⟨hxb, ⟨x0, x1, x2, x3, x4, x5⟩, hxd⟩ := hx; rw [hk] at x2; rw [hh] at h1; (have hdp : IntKind.i64.wrap ((12 : Int) - (k : Int) + 1) = 13 - (k : Int) := by rw [IntKind.wrap_i64]; omega); have u2 := ((Up.refl w).alloc (.cells #[.int .i64 0, .slice none 0 0, .slice none 0 0, .slice none 0 0] 53)).alloc (.cells #[.int .i64 x.number, .slice none 0 0, .slice none 0 0, .slice none 0 0] 53); have hb := World.block_lt_of_cell? w _ h1; simp only at hb; (have hb1 : bf ≠ w.heap.size := by omega); (have hb2 : bf ≠ w.heap.size + 1 := by omega); have g1 := u2.cell_some h1; have g2 := u2.cell_some x2; have HP := hid (fun W (u : Up w W) => (⟨u.cell_some hcc, u.cell_some hcm, u.cell_some hce, u.cell_some x3, u.cell_some h3⟩ : (W.cell? ⟨cb, 0, none⟩ = some (.pointer (some ⟨fb, 0, none⟩)) ∧ W.cell? ⟨fb, 0, none⟩ = some (.slice ma f.msgs.length mc) ∧ W.cell? ⟨fb, 1, none⟩ = some (.slice ea f.enums.length ec) ∧ W.cell? ⟨bf, fo + 3, none⟩ = some (.string ⟨x.type.toArray⟩) ∧ W.cell? ⟨b, o + 3, none⟩ = some (.slice a3 r.bytes.length c3)))); clear hk hh x0 x4 x5 hxd hhw hr hT hfv hc ih; generalize readC f k (msgI f x.type) r.bytes = RC at *; generalize msgI f x.type = mi at *
 go_enter Tryz.func70, Tryz.ntmps70
 go_upto_region 9 with (go_at_call 21; go_must (refine (Hhw.out _).mono ?_; rintro e w1 ⟨rfl, hw1⟩; subst hw1))
 have hk0 : ((w.alloc (.cells #[.int .i64 0, .slice none 0 0, .slice none 0 0, .slice none 0 0] 53)).alloc (.cells #[.int .i64 x.number, .slice none 0 0, .slice none 0 0, .slice none 0 0] 53)).heap[w.heap.size]? = some (.cells #[.int .i64 0, .slice none 0 0, .slice none 0 0, .slice none 0 0] 53 (0, 0)) := blk_old _ (blk_new w _ rfl); have hk1 : ((w.alloc (.cells #[.int .i64 0, .slice none 0 0, .slice none 0 0, .slice none 0 0] 53)).alloc (.cells #[.int .i64 x.number, .slice none 0 0, .slice none 0 0, .slice none 0 0] 53)).heap[w.heap.size + 1]? = some (.cells #[.int .i64 x.number, .slice none 0 0, .slice none 0 0, .slice none 0 0] 53 (0, 0)) := blk_new (w.alloc _) _ (by simp); clear g1 g2 h1 h3 x1 x2 x3 hcc hcm hce; generalize hW : (w.alloc (.cells #[.int .i64 0, .slice none 0 0, .slice none 0 0, .slice none 0 0] 53)).alloc (.cells #[.int .i64 x.number, .slice none 0 0, .slice none 0 0, .slice none 0 0] 53) = W at *; have dd : (W.drew.cell? ⟨cb, 0, none⟩ = some (.pointer (some ⟨fb, 0, none⟩)) ∧ W.drew.cell? ⟨fb, 0, none⟩ = some (.slice ma f.msgs.length mc) ∧ W.drew.cell? ⟨fb, 1, none⟩ = some (.slice ea f.enums.length ec) ∧ W.drew.cell? ⟨bf, fo + 3, none⟩ = some (.string ⟨x.type.toArray⟩) ∧ W.drew.cell? ⟨b, o + 3, none⟩ = some (.slice a3 r.bytes.length c3)) := HP.out _ u2.drew; have Hz2 := hid (show W.heap.size = w.heap.size + 2 by rw [← hW]; simp); clear hW
 go_cut [14, 15] (fun p e wc => ∃ (G : Nat) (s1 s2 : Option Addr) (n1 c1 n2 c2 : Nat), p = .pointer (some ⟨G, 0, none⟩) ∧ e = .int .i64 RC.2 ∧ wc.heap[G]? = some (.cells #[.slice s1 n1 c1, .slice s2 n2 c2] 29 (0, 0)) ∧ DBodF (k + 1) (fun b => w.heap.size + 2 ≤ b ∧ b ≠ G) wc RC.1 [.slice s1 n1 c1, .slice s2 n2 c2] ∧ w.heap.size + 2 ≤ G ∧ Up W wc)
 case first =>
   go_region_held3 (fun w' => (w'.cell? ⟨cb, 0, none⟩ = some (.pointer (some ⟨fb, 0, none⟩)) ∧ w'.cell? ⟨fb, 0, none⟩ = some (.slice ma f.msgs.length mc) ∧ w'.cell? ⟨fb, 1, none⟩ = some (.slice ea f.enums.length ec) ∧ w'.cell? ⟨bf, fo + 3, none⟩ = some (.string ⟨x.type.toArray⟩) ∧ w'.cell? ⟨b, o + 3, none⟩ = some (.slice a3 r.bytes.length c3)))
     (first | with_reducible exact dd | with_reducible exact HP.out _ (Up.setCell (Up.setCell (hu6.alloc _) (show w.heap.size ≤ w6.heap.size from hu6.size) _) (show w.heap.size ≤ w6.heap.size from hu6.size) _) | with_reducible exact HP.out _ (Up.setCell (Up.setCell hu6 (show w.heap.size ≤ w5.heap.size from hu5.size) _) (show w.heap.size ≤ w5.heap.size from hu5.size) _) | with_reducible exact HP.out _ (Up.setCell (Up.setCell hu6 (show w.heap.size ≤ W.heap.size from u2.size) _) (show w.heap.size ≤ W.heap.size from u2.size) _) | with_reducible exact HP.out _ (hu6.alloc _) | with_reducible exact HP.out _ hu6 | with_reducible exact HP.out _ (hu5.alloc _) | with_reducible exact HP.out _ hu5 | with_reducible exact HP.out _ (u2.alloc _).drew | with_reducible exact HP.out _ (u2.drew.alloc _))
     (first
       | (go_at_call 81
          first
            | (refine (Hmsg.out _ u2.drew).mono ?_; rintro e w5 ⟨rfl, hu5'⟩; have hu5 := u2.drew.trans hu5'; have hw5 := (Up.refl W).drew.trans hu5')
            | (refine (Hmsg.out _ (u2.alloc _).drew).mono ?_; rintro e w5 ⟨rfl, hu5'⟩; have hu5 := (u2.alloc _).drew.trans hu5'; have hw5 := ((Up.refl W).alloc _).drew.trans hu5'; have hg5 : w5.heap[W.heap.size]? = some (.cells #[.slice none 0 0, .slice none 0 0] 29 (0, 0)) := hu5'.blk (blk_new W _ rfl)))
       | (go_at_call 39
          first
            | (refine (Hbod.out _ hu5).mono ?_; rintro e w6 ⟨vv, vu, rfl, hd6, hu6'⟩; obtain ⟨s1, n1, c1, s2, n2, c2, hbt⟩ := bod_two hd6; simp only [List.cons.injEq, and_true] at hbt; obtain ⟨rfl, rfl⟩ := hbt; have hu6 := hu5.trans hu6'; have hw6 := hw5.trans hu6'; try (have hg6 : w6.heap[W.heap.size]? = some (.cells #[.slice none 0 0, .slice none 0 0] 29 (0, 0)) := hu6'.blk hg5; have q0 : w6.cell? ⟨W.heap.size, 0, none⟩ = some (.slice none 0 0) := cell_of_row w6 _ 0 _ _ _ hg6; have q1 : w6.cell? ⟨W.heap.size, 1, none⟩ = some (.slice none 0 0) := cell_of_row w6 _ 1 _ _ _ hg6; have qf : ∀ o, w6.frozen? ⟨W.heap.size, o, none⟩ = false := (fun o => frozen_of_row w6 _ o _ _ hg6); have qz : W.heap.size < w6.heap.size := lt_of_block hg6))
            | (refine (Hbod.out _ (hu5.alloc _)).mono ?_; rintro e w6 ⟨vv, vu, rfl, hd6, hu6'⟩; obtain ⟨s1, n1, c1, s2, n2, c2, hbt⟩ := bod_two hd6; simp only [List.cons.injEq, and_true] at hbt; obtain ⟨rfl, rfl⟩ := hbt; have hu6 := (hu5.alloc _).trans hu6'; have hw6 := (hw5.alloc _).trans hu6'; have hg6 : w6.heap[w5.heap.size]? = some (.cells #[.slice none 0 0, .slice none 0 0] 29 (0, 0)) := hu6'.blk (blk_new w5 _ rfl); have q0 : w6.cell? ⟨w5.heap.size, 0, none⟩ = some (.slice none 0 0) := cell_of_row w6 _ 0 _ _ _ hg6; have q1 : w6.cell? ⟨w5.heap.size, 1, none⟩ = some (.slice none 0 0) := cell_of_row w6 _ 1 _ _ _ hg6; have qf : ∀ o, w6.frozen? ⟨w5.heap.size, o, none⟩ = false := (fun o => frozen_of_row w6 _ o _ _ hg6); have qz : w5.heap.size < w6.heap.size := lt_of_block hg6)))
   all_goals
     go_wp2_with fail
     go_meet
   · exact ⟨w6.heap.size, s1, s2, n1, c1, n2, c2, rfl, rfl, blk_new w6 _ rfl, stable_bod _ _ _ _ _ _ _ (fun b hs hb => ⟨((Up.refl w6).alloc _).block b hb, by have := hw5.size; have := Hz2.out; have : w5.heap.size ≤ b := hs; omega, by omega⟩) hd6, by have := hw6.size; have := Hz2.out; omega, hw6.alloc _⟩
   · exact ⟨w5.heap.size, s1, s2, n1, c1, n2, c2, rfl, rfl, box2_set hg6 _ _, stable_bod _ _ _ _ _ _ _ (fun b hs hb => by
       (have hs' : w5.heap.size + 1 ≤ b := by simpa using hs); exact ⟨box2_other (by omega) _ _, by have := hw5.size; have := Hz2.out; omega, by omega⟩) hd6, by have := hw5.size; have := Hz2.out; omega, Up.setCell (Up.setCell hw6 (show W.heap.size ≤ w5.heap.size from hw5.size) _) (show W.heap.size ≤ w5.heap.size from hw5.size) _⟩
   · exact ⟨W.heap.size, s1, s2, n1, c1, n2, c2, rfl, rfl, box2_set hg6 _ _, stable_bod _ _ _ _ _ _ _ (fun b hs hb => by
       have hs' : w5.heap.size ≤ b := hs; have h5 := lt_of_block hg5; exact ⟨box2_other (by omega) _ _, by have := Hz2.out; omega, by omega⟩) hd6, by have := Hz2.out; omega, Up.setCell (Up.setCell hw6 (Nat.le_refl W.heap.size) _) (Nat.le_refl W.heap.size) _⟩
 case rest =>
 obtain ⟨G, s1, s2, n1, c1, n2, c2, rfl, rfl, hG, hdG, hzG, huW⟩ := hcut; have k0 := huW.blk hk0; have k1 := huW.blk hk1; have HuW := hid (u2.trans huW); have HG := hid hG; have HdG := hid hdG; have HzG := hid hzG; have z0 : wc.cell? ⟨w.heap.size, 0, none⟩ = some (.int .i64 0) := cell_of_row wc _ 0 _ _ _ k0; have z1 : wc.cell? ⟨w.heap.size, 1, none⟩ = some (.slice none 0 0) := cell_of_row wc _ 1 _ _ _ k0; have z2 : wc.cell? ⟨w.heap.size, 2, none⟩ = some (.slice none 0 0) := cell_of_row wc _ 2 _ _ _ k0; have z3 : wc.cell? ⟨w.heap.size, 3, none⟩ = some (.slice none 0 0) := cell_of_row wc _ 3 _ _ _ k0; have y0 : wc.cell? ⟨w.heap.size + 1, 0, none⟩ = some (.int .i64 x.number) := cell_of_row wc _ 0 _ _ _ k1; have y1 : wc.cell? ⟨w.heap.size + 1, 1, none⟩ = some (.slice none 0 0) := cell_of_row wc _ 1 _ _ _ k1; have y2 : wc.cell? ⟨w.heap.size + 1, 2, none⟩ = some (.slice none 0 0) := cell_of_row wc _ 2 _ _ _ k1; have y3 : wc.cell? ⟨w.heap.size + 1, 3, none⟩ = some (.slice none 0 0) := cell_of_row wc _ 3 _ _ _ k1; have f0 : ∀ o, wc.frozen? ⟨w.heap.size, o, none⟩ = false := fun o => frozen_of_row wc _ o _ _ k0; have f1 : ∀ o, wc.frozen? ⟨w.heap.size + 1, o, none⟩ = false := fun o => frozen_of_row wc _ o _ _ k1; have g0 : wc.cell? ⟨G, 0, none⟩ = some (.slice s1 n1 c1) := cell_of_row wc _ 0 _ _ _ hG; have g1 : wc.cell? ⟨G, 1, none⟩ = some (.slice s2 n2 c2) := cell_of_row wc _ 1 _ _ _ hG; have q0 := lt_of_block k0; have q1 := lt_of_block k1; have qG := lt_of_block hG; (have ne0 : w.heap.size ≠ wc.heap.size := by omega); (have ne1 : w.heap.size + 1 ≠ wc.heap.size := by omega); (have neG : G ≠ wc.heap.size := by omega); obtain ⟨RB, re⟩ := RC; simp only at HdG ⊢; clear hk0 hk1 k0 k1 hG hdG hzG huW u2 dd Hmsg Hbod HP Hhw Hz2
 by_cases hre : re = 0
 · subst hre; (go_wp2_with fail); refine bodyPost_ret (v := .tuple #[.agg #[.int .i64 x.number, .slice none 0 0, .slice none 0 0, .slice (some ⟨wc.heap.size, 0, none⟩) 1 1], .bool true, .int .i64 0]) (by simp [results, Tryz.results70, go_sem, z0, z1, z2, z3, q0]) rfl ?_; refine ⟨_, rfl, ?_, ?_⟩
   · refine rd_one (t := 29) (vv := .slice s1 n1 c1) (vu := .slice s2 n2 c2) (blk_new _ _ (by simp)) (show w.heap.size + 2 ≤ wc.heap.size by have := HzG.out; omega) ?_; refine stable_bod (k + 1) (From (w.heap.size + 2)) _ _ _ _ _ (fun b hs hb => ⟨((Up.refl _).alloc _).block b hb, hs⟩) ?_; refine stable_bod (k + 1) _ _ _ _ _ _ ?_ HdG.out; repeat (with_reducible refine Keep.trans ?_ (Keep.setCell ?_ _))
     · exact fun b hs hb => ⟨rfl, hs.1⟩
     all_goals (show ¬ (w.heap.size + 2 ≤ _); simp)
   · refine Up.alloc ?_ _; repeat (with_reducible refine Up.setCell ?_ ?_ _)
     · exact HuW.out
     all_goals simp
 · (have hne : (re != 0) = true := by rw [bne_iff_ne]; exact hre); have Hre := hid hre; clear hre; (go_wp2_with fail); refine bodyPost_ret (v := .tuple #[.agg #[.int .i64 x.number, .slice none 0 0, .slice none 0 0, .slice none 0 0], .bool false, .int .i64 re]) (by simp [results, Tryz.results70, go_sem, z0, z1, z2, z3]) rfl ?_; refine ⟨.slice none 0 0, rfl, rdS_nil _ _ _ _, ?_⟩; repeat (with_reducible refine Up.setCell ?_ ?_ _)
   · exact HuW.out
   all_goals simp
end Go.Proofs.YtbceapeoknngnaaGreatDoor
namespace Go.Proofs.YtbceapeoknngnaaGreatDoor
open Go.RowKit
theorem pack_err {kind : Int} : ∀ (f : Nat) (l : List UInt8), (packP kind f l).2 ≠ 0 → (packP kind f l).1 = []
 | 0, l, h => by rw [packP]
 | f + 1, l, h => by
   rw [packP] at h ⊢
   by_cases hl : l = []
   · rw [if_pos hl]
   rw [if_neg hl] at h ⊢
   by_cases hh : (headC (howC kind) l).2.2 = 0
   · rw [if_neg (by simpa using hh)] at h ⊢; simp only at h ⊢
     by_cases hp : (packP kind f (l.drop (headC (howC kind) l).2.1)).2 = 0
     · rw [if_neg (by simpa using hp)] at h; exact absurd rfl h
     · rw [if_pos hp]
   · rw [if_pos hh]
theorem numbers_len {x : Fld} {r : Rec} (h1 : 1 ≤ x.kind) (h2 : x.kind ≤ 7) : (numbersC x r).1.length ≤ r.bytes.length + 1 := by
 unfold numbersC
 by_cases hh : r.how = howC x.kind
 · rw [if_pos hh]; simp
 · rw [if_neg hh]
   by_cases hm : r.how ≠ 2 ∨ x.many = false
   · rw [if_pos hm]; simp
   · rw [if_neg hm]
     by_cases he : (packP x.kind (r.bytes.length + 1) r.bytes).2 = 0
     · have := (pack_fits h1 h2 _ _ he).2; omega
     · rw [pack_err _ _ he]; simp
theorem rd_two {S : Nat → Prop} {w : World} {x : Val} {vb vy vs : Value} {d : Nat} (h0 : okI x.1) (h1 : RdS DU64 1 S w vb x.2.1) (h2 : RdS DBytes 1 S w vy x.2.2.1) (h3 : RdS (DBodF d) 2 S w vs x.2.2.2) (hz : ValSz x) : ∃ a1 c1 a2 c2 a3 c3, vb = .slice a1 x.2.1.length c1 ∧ vy = .slice a2 x.2.2.1.length c2 ∧ vs = .slice a3 x.2.2.2.length c3 ∧ DValD d S w x [.int .i64 x.1, .slice a1 x.2.1.length c1, .slice a2 x.2.2.1.length c2, .slice a3 x.2.2.2.length c3] := by
 obtain ⟨a1, c1, rfl, _, _⟩ := h1.val; obtain ⟨a2, c2, rfl, _, _⟩ := h2.val; obtain ⟨a3, c3, rfl, _, _⟩ := h3.val; exact ⟨a1, c1, a2, c2, a3, c3, rfl, rfl, rfl, _, _, _, rfl, h0, h1, h2, h3, hz⟩
theorem rvalue_c (S : Nat → Prop) (k : Nat) (f : Fil) (ih : RBodC k f) (x : Fld) (r : Rec) (cb fb bf fo b o c3 : Nat) (a3 : Option Addr) (w : World) (hk13 : k ≤ 12) (hc : ChkAt w cb fb f) (hx : FldAt w bf fo x) (h1 : w.cell? ⟨b, o + 1, none⟩ = some (.int .i64 r.how)) (h2 : w.cell? ⟨b, o + 2, none⟩ = some (.int .u64 (r.bits : Int))) (h3 : w.cell? ⟨b, o + 3, none⟩ = some (.slice a3 r.bytes.length c3))
   (hr : RdB S w (.slice a3 r.bytes.length c3) r.bytes) (hbl : r.bytes.length ≤ 4000) (h64 : r.bits < 18446744073709551616) (hT : Tabs w) (ht : typedN f x = 0) (n1 : 1 ≤ x.number) (n2 : x.number < 536870912) :
   Calls Tryz.prog 70 #[.pointer (some ⟨cb, 0, none⟩), .pointer (some ⟨bf, fo, none⟩), .pointer (some ⟨b, o, none⟩), .int .i64 (12 - k)] w fun e w' => ∃ a1 c1 a2 c2 a3 c3, e = .returned (.tuple #[.agg #[.int .i64 x.number, .slice a1 (valueC (fun bs => readC f k (msgI f x.type) bs) x r).1.2.1.length c1, .slice a2 (valueC (fun bs => readC f k (msgI f x.type) bs) x r).1.2.2.1.length c2, .slice a3 (valueC (fun bs => readC f k (msgI f x.type) bs) x r).1.2.2.2.length c3], .bool (valueC (fun bs => readC f k (msgI f x.type) bs) x r).2.1, .int .i64 (valueC (fun bs => readC f k (msgI f x.type) bs) x r).2.2]) ∧
     DValD (k + 1) (SVal S w.heap.size) w' (valueC (fun bs => readC f k (msgI f x.type) bs) x r).1 [.int .i64 x.number, .slice a1 (valueC (fun bs => readC f k (msgI f x.type) bs) x r).1.2.1.length c1, .slice a2 (valueC (fun bs => readC f k (msgI f x.type) bs) x r).1.2.2.1.length c2, .slice a3 (valueC (fun bs => readC f k (msgI f x.type) bs) x r).1.2.2.2.length c3] ∧ Up w w' := by
 obtain ⟨t1, t2, t3, t4⟩ := typed_facts ht; (have hok : okI x.number := by unfold okI; omega); have hrA : RdB All w (.slice a3 r.bytes.length c3) r.bytes := hr.keep stable_u8 Keep.all; have hnil64 : ∀ (Q : Nat → Prop) (W : World), RdS DU64 1 Q W (.slice none 0 0) ([] : List Nat) := fun _ _ => rdS_nil _ _ _ _; have hnilB : ∀ (Q : Nat → Prop) (W : World), RdS DBytes 1 Q W (.slice none 0 0) ([] : List (List UInt8)) := fun _ _ => rdS_nil _ _ _ _; have hnilS : ∀ (Q : Nat → Prop) (W : World), RdS (DBodF (k + 1)) 2 Q W (.slice none 0 0) ([] : List Bod) := fun _ _ => rdS_nil _ _ _ _; unfold valueC
 by_cases hk : howC x.kind ≠ 2
 · rw [if_pos hk]; (have h7 : x.kind ≤ 7 := by rcases kind_how t1 t2 with h | h | h; exact h.2; exact absurd h.1 hk; exact absurd h.1 hk); refine (rvalue_num x r cb bf fo b o c3 a3 (12 - k) w hx h1 h2 h3 hrA (by omega) h64 hk).mono ?_; rintro e w' ⟨v1, rfl, hv, hu⟩
   obtain ⟨p1, q1, p2, q2, p3, q3, e1, e2, e3, hd⟩ := rd_two (d := k + 1) (x := (x.number, (numbersC x r).1, [], [])) hok (hv.keep stable_u64 (S' := SVal S w.heap.size) (Keep.weak fun b hb => .inr hb)) (hnilB _ _) (hnilS _ _) (by
     have := numbers_len (r := r) t1 h7; refine ⟨?_, by simp, by simp⟩; simp only; omega)
   subst e1; (cases e2; cases e3); exact ⟨_, _, _, _, _, _, rfl, hd, hu⟩
 · rw [if_neg hk]; have hk2 : howC x.kind = 2 := Classical.not_not.1 hk
   have hnil : ∀ (W : World), DValD (k + 1) (SVal S w.heap.size) W (x.number, [], [], []) [.int .i64 x.number, .slice none 0 0, .slice none 0 0, .slice none 0 0] := fun W =>
     ⟨_, _, _, rfl, hok, hnil64 _ _, hnilB _ _, hnilS _ _, ⟨by simp, by simp, by simp⟩⟩
   by_cases hw : r.how ≠ 2
   · rw [if_pos hw]; refine (rvalue_unfit x r cb bf fo b o (12 - k) w hx h1 hk2 hw).mono ?_; rintro e w' ⟨rfl, hu⟩; exact ⟨_, _, _, _, _, _, rfl, hnil w', hu⟩
   · rw [if_neg hw]; have hw : r.how = 2 := Classical.not_not.1 hw
     by_cases h8 : x.kind = 8
     · rw [if_pos h8]; refine (rvalue_text S x r cb bf fo b o c3 a3 (12 - k) w hx h1 h3 hr (by omega) h8 hT hw).mono ?_; rintro e w' ⟨v2, rfl, hv, hu⟩
       cases hvd : Lib.validD r.bytes with
       | true =>
         rw [hvd] at hv; obtain ⟨p1, q1, p2, q2, p3, q3, e1, e2, e3, hd⟩ := rd_two (d := k + 1) (x := (x.number, [], [r.bytes], [])) hok (hnil64 _ _) hv (hnilS _ _) ⟨by simp, by simp, by simp⟩; subst e2; (cases e1; cases e3); exact ⟨_, _, _, _, _, _, rfl, hd, hu⟩
       | false =>
         rw [hvd] at hv; obtain ⟨p1, q1, p2, q2, p3, q3, e1, e2, e3, hd⟩ := rd_two (d := k + 1) (x := (x.number, [], [], [])) hok (hnil64 _ _) hv (hnilS _ _) ⟨by simp, by simp, by simp⟩; subst e2; (cases e1; cases e3); exact ⟨_, _, _, _, _, _, rfl, hd, hu⟩
     · rw [if_neg h8]
       by_cases h9 : x.kind = 9
       · rw [if_pos h9]; refine (rvalue_raw S x r cb bf fo b o c3 a3 (12 - k) w hx h1 h3 hr (by omega) h9 hw).mono ?_; rintro e w' ⟨v2, rfl, hv, hu⟩; obtain ⟨p1, q1, p2, q2, p3, q3, e1, e2, e3, hd⟩ := rd_two (d := k + 1) (x := (x.number, [], [r.bytes], [])) hok (hnil64 _ _) hv (hnilS _ _) ⟨by simp, by simp, by simp⟩; subst e2; (cases e1; cases e3); exact ⟨_, _, _, _, _, _, rfl, hd, hu⟩
       · rw [if_neg h9]; (have h10 : x.kind = 10 := by rcases howC_two.1 hk2 with h | h | h; exact absurd h h8; exact absurd h h9; exact h); refine (rvalue_sub k f ih x r cb fb bf fo b o c3 a3 w hk13 hc hx h1 h3 hrA (by omega) hT h10 hw (t3 h10)).mono ?_; rintro e w' ⟨v3, rfl, hv, hu⟩; have hv := hv.keep (stable_bod (k + 1)) (S' := SVal S w.heap.size) (Keep.weak fun b hb => .inr hb)
         by_cases hz : (readC f k (msgI f x.type) r.bytes).2 = 0
         · rw [if_pos hz] at hv; rw [if_neg (by simpa using hz)]; obtain ⟨p1, q1, p2, q2, p3, q3, e1, e2, e3, hd⟩ := rd_two (d := k + 1) (x := (x.number, [], [], [(readC f k (msgI f x.type) r.bytes).1])) hok (hnil64 _ _) (hnilB _ _) hv ⟨by simp, by simp, by simp⟩; subst e3; (cases e1; cases e2); refine ⟨_, _, _, _, _, _, ?_, hd, hu⟩; rw [decide_eq_true hz, hz]; rfl
         · rw [if_neg hz] at hv; rw [if_pos (by simpa using hz)]; obtain ⟨p1, q1, p2, q2, p3, q3, e1, e2, e3, hd⟩ := rd_two (d := k + 1) (x := (x.number, [], [], [])) hok (hnil64 _ _) (hnilB _ _) hv ⟨by simp, by simp, by simp⟩; subst e3; (cases e1; cases e2); refine ⟨_, _, _, _, _, _, ?_, hd, hu⟩; rw [decide_eq_false hz]; rfl
end Go.Proofs.YtbceapeoknngnaaGreatDoor
namespace Go.Proofs.YtbceapeoknngnaaGreatDoor
section
variable {P : Program} {ops : Array Oper} {md : Region.Mode} {Q : Exit → Act → World → Prop}
def runTail (P : Program) (ops : Array Oper) (Q : Exit → Act → World → Prop) : Nat → Nat → Act → World → Prop
 | 0, _, a, w => Q .normal a w
 | t + 1, i, a, w => wpOp P ops Q i (fun a' w' => runTail P ops Q t (i + 1) a' w') a w
def AskTail (P : Program) (ops : Array Oper) (t m : Nat) (Q : Exit → Act → World → Prop) : Exit → Act → World → Prop := fun e a w => match e with
 | .normal => runTail P ops Q t m a w
 | e => Q e a w
theorem AskTail.normal {t m : Nat} {a : Act} {w : World} (h : runTail P ops Q t m a w) : AskTail P ops t m Q .normal a w := h
theorem wpOp_askT {t m i : Nat} {K : Act → World → Prop} {a : Act} {w : World} (h : wpOp P ops (AskTail P ops t m Q) i K a w) : wpOp P ops Q i K a w := by
 unfold wpOp at *; split
 · rename_i hn; simp only [hn] at h; exact h
 · rename_i o ho; simp only [ho] at h; split
   · rename_i hw; simp only [hw, if_true] at h; rcases h with h | h
     · refine .inl ?_; unfold Oper.wp at h ⊢; generalize (execOp a.eval o).run P w = r at *
       cases r with
       | ok n w' => cases n <;> exact h
       | halt x w' => cases x <;> exact h
     · exact .inr h
   · rename_i hw; rw [if_neg hw] at h; exact h
def setTail : Nat → Nat → Array Bool → Array Bool
 | 0, _, l => l
 | t + 1, m, l => setTail t (m + 1) (l.setIfInBounds m true)
theorem setTail_low : ∀ (t m : Nat) (l : Array Bool) (i : Nat) (d : Bool), i < m → (setTail t m l).getD i d = l.getD i d
 | 0, _, _, _, _, _ => rfl
 | t + 1, m, l, i, d, h => by
   rw [setTail, setTail_low t (m + 1) _ i d (by omega), getD_set_ne d (by omega)]
theorem setTail_set : ∀ (t m : Nat) (l : Array Bool) (i : Nat), i < m → setTail t m (l.setIfInBounds i true) = (setTail t m l).setIfInBounds i true
 | 0, _, _, _, _ => rfl
 | t + 1, m, l, i, h => by
   rw [setTail, setTail, Array.setIfInBounds_comm _ _ (show i ≠ m by omega), setTail_set t (m + 1) _ i (by omega)]
theorem getD_set_self {l : Array Bool} {i : Nat} (h : i < l.size) (d : Bool) : (l.setIfInBounds i true).getD i d = true := by
 simp [h]
theorem setTail_high : ∀ (t m : Nat) (l : Array Bool) (i : Nat) (d : Bool), m ≤ i → i < m + t → i < l.size → (setTail t m l).getD i d = true
 | 0, m, l, i, d, h1, h2, _ => by omega
 | t + 1, m, l, i, d, h1, h2, h3 => by
   rw [setTail]
   by_cases h : i = m
   · subst h; rw [setTail_low t (i + 1) _ i d (by omega), getD_set_self h3]
   · exact setTail_high t (m + 1) _ i d (by omega) (by omega) (by simpa using h3)
theorem wpAny_run (hdep : ∀ (j : Nat) (oj : Oper), ops[j]? = some oj → ∀ e ∈ oj.after, Region.binds md e = true → e.on < j) : ∀ (t m f : Nat) (listed : Array Bool) (a : Act) (w : World), m + t = ops.size → listed.size = ops.size →
   (∀ i, m < i → i < ops.size → Region.waitsFor md ops i (i - 1) = true) → (∀ i, i < m → listed.getD i false = true) → (∀ i, m ≤ i → i < ops.size → listed.getD i true = false) → runTail P ops Q t m a w → wpAny P md ops Q (f + t) listed a w
 | 0, m, f, listed, a, w, hm, hsz, _, hall, _, h => by
   have hr : Region.ready md ops listed = [] := List.eq_nil_iff_forall_not_mem.2 fun i hi => by
     obtain ⟨h0, o, ho, _⟩ := mem_ready.1 hi; have hlt := (Array.getElem?_eq_some_iff.1 ho).1; have h1 := hall i (by omega); have h2 := getD_both h0; rw [h1] at h2; cases h2
   cases f with
   | zero => exact ⟨hr, h⟩
   | succ f => exact ⟨fun _ => h, fun i hi => by rw [hr] at hi; cases hi⟩
 | t + 1, m, f, listed, a, w, hm, hsz, hc, hall, hun, h => by
   have hmr : m ∈ Region.ready md ops listed := mem_ready.2 ⟨hun m (Nat.le_refl _) (by omega), ops[m], by simp [show m < ops.size by omega], fun e he hb => hall e.on (hdep m ops[m] (by simp [show m < ops.size by omega]) e he hb)⟩
   have honly : ∀ i, i ∈ Region.ready md ops listed → i = m := fun i hi => by
     obtain ⟨h0, o, ho, hal⟩ := mem_ready.1 hi; have hlt := (Array.getElem?_eq_some_iff.1 ho).1; rcases Nat.lt_trichotomy i m with h1 | h1 | h1
     · have h2 := hall i h1; have h3 := getD_both h0; rw [h2] at h3; cases h3
     · exact h1
     · obtain ⟨o', ho', e, he, hb, hon⟩ := Region.waitsFor_spec (hc i h1 hlt); have : o' = o := Option.some.inj (ho'.symm.trans ho); subst this; have h2 := hal e he hb; rw [hon, getD_both (hun (i - 1) (by omega) (by omega))] at h2; cases h2
   show wpAny P md ops Q ((f + t) + 1) listed a w; (refine ⟨fun h0 => (by rw [h0] at hmr; cases hmr), fun i hi => ?_⟩); obtain rfl := honly i hi; refine wpOp_mono (fun a' w' h' => ?_) h
   exact wpAny_run hdep t (i + 1) f _ a' w' (by omega) (by simp [hsz]) (fun j hj hj' => hc j (by omega) hj') (fun j hj => by
     by_cases hji : j = i
     · subst hji; exact getD_set_self (by omega) false
     · rw [getD_set_ne false (Ne.symm hji)]; exact hall j (by omega)) (fun j hj hj' => by rw [getD_set_ne true (by omega)]; exact hun j (by omega) hj') h'
theorem wpAny_tail {t m : Nat} (hm : m + t = ops.size) (ht : 0 < t) (hs : Region.sinkB md ops m = true) (hc : Region.chainB md ops m = true) (hdep : ∀ (j : Nat) (oj : Oper), ops[j]? = some oj → ∀ e ∈ oj.after, Region.binds md e = true → e.on < j) :
   ∀ (f : Nat) (listed : Array Bool) (a : Act) (w : World), HeadInv md ops m listed → wpAny P md ops (AskTail P ops t m Q) f (setTail t m listed) a w → wpAny P md ops Q (f + t) listed a w := by
 have hback : ∀ (listed : Array Bool) (i : Nat), i < m → (i ∈ Region.ready md ops (setTail t m listed) ↔ i ∈ Region.ready md ops listed) := fun listed i him => by
   rw [mem_ready, mem_ready, setTail_low t m listed i true him]; refine and_congr_right fun _ => exists_congr fun o => and_congr_right fun ho => forall_congr' fun e => forall_congr' fun he => forall_congr' fun hb => ?_; rw [setTail_low t m listed e.on false (by have := hdep i o ho e he hb; omega)]
 have hchain : ∀ i, m < i → i < ops.size → Region.waitsFor md ops i (i - 1) = true := fun i h1 h2 => by
   have h3 := List.all_eq_true.1 hc i (List.mem_range.2 h2); simp only [Bool.or_eq_true, decide_eq_true_eq] at h3; rcases h3 with h3 | h3
   · omega
   · exact h3
 have hlowr : ∀ (listed : Array Bool), listed.size = ops.size → ∀ i, i ∈ Region.ready md ops (setTail t m listed) → i < m := fun listed hsz i hi => by
   obtain ⟨h0, o, ho, _⟩ := mem_ready.1 hi; have hlt := (Array.getElem?_eq_some_iff.1 ho).1; apply Classical.byContradiction; intro h; rw [setTail_high t m listed i true (by omega) (by omega) (by omega)] at h0; cases h0
 intro f
 induction f with
 | zero =>
   intro listed a w inv h
   have hall : ∀ i, i < m → listed.getD i false = true := by
     intro i
     induction i using Nat.strongRecOn with
     | _ i ih =>
       intro hi
       cases hl : listed.getD i false with
       | true => rfl
       | false =>
         have hri : i ∈ Region.ready md ops listed := mem_ready.2 ⟨getD_in (by rw [inv.size]; omega) hl, ops[i], by simp [show i < ops.size by omega], fun e he hb => by
           have h1 := hdep i ops[i] (by simp [show i < ops.size by omega]) e he hb; exact ih e.on h1 (by omega)⟩
         have := (hback listed i hi).2 hri; rw [h.1] at this; cases this
   exact wpAny_run hdep t m 0 listed a w hm inv.size hchain hall inv.tail h.2
 | succ f ih =>
   intro listed a w inv h
   by_cases hr : Region.ready md ops (setTail t m listed) = []
   · have hall : ∀ i, i < m → listed.getD i false = true := by
       intro i
       induction i using Nat.strongRecOn with
       | _ i ih =>
         intro hi
         cases hl : listed.getD i false with
         | true => rfl
         | false =>
           have hri : i ∈ Region.ready md ops listed := mem_ready.2 ⟨getD_in (by rw [inv.size]; omega) hl, ops[i], by simp [show i < ops.size by omega], fun e he hb => by
             have h1 := hdep i ops[i] (by simp [show i < ops.size by omega]) e he hb; exact ih e.on h1 (by omega)⟩
           have := (hback listed i hi).2 hri; rw [hr] at this; cases this
     exact wpAny_run hdep t m (f + 1) listed a w hm inv.size hchain hall inv.tail (h.1 hr)
   · rw [show f + 1 + t = (f + t) + 1 by omega]; obtain ⟨i0, hi0⟩ := List.exists_mem_of_ne_nil _ hr; have hi0m := hlowr listed inv.size i0 hi0; have hun0 := (mem_ready.1 ((hback listed i0 hi0m).1 hi0)).1; refine ⟨fun h0 => ?_, fun i hi => ?_⟩
     · have := (hback listed i0 hi0m).1 hi0; rw [h0] at this; cases this
     · have him : i < m := by
         apply Classical.byContradiction; intro hge; exact tail_waits hs hc (by omega) inv _ i0 rfl hi0m hun0 i (by omega) hi
       refine wpOp_askT (t := t) (m := m) (wpOp_mono (fun a' w' h' => ih _ a' w' (inv.set hi him) ?_) (h.2 i ((hback listed i him).2 hi))); rw [setTail_set t m listed i him]; exact h'
theorem wp_region_tail {S : World → Prop} {id m : Nat} (t : Nat) {a : Act} {w : World} (hf : P.follows .mixedOrders = true) (hm : m + t = ops.size) (ht : 0 < t) (hs : Region.sinkB .any ops m = true) (hc : Region.chainB .any ops m = true)
   (hdep : (List.range ops.size).all (fun j => match ops[j]? with | some oj => oj.after.all (fun e => !Region.binds .any e || decide (e.on < j)) | none => true) = true)
   (h : wpAnyH P .any ops (AskTail P ops t m Q) S m (setTail t m (Array.replicate ops.size false)) a { w with drawn := w.drawn + 1 }) : (Code.region id ops true).wp P Q a w := by
 have hd : ∀ (j : Nat) (oj : Oper), ops[j]? = some oj → ∀ e ∈ oj.after, Region.binds .any e = true → e.on < j := fun j oj hj e he hb => by
   have h1 := List.all_eq_true.1 hdep j (List.mem_range.2 (Array.getElem?_eq_some_iff.1 hj).1); rw [hj] at h1; have h2 := (Array.all_eq_true_iff_forall_mem.1 h1) e he; simp only [hb, Bool.not_true, Bool.false_or, decide_eq_true_eq] at h2; exact h2
 refine wp_region_any hf ?_; rw [← hm]; rw [← hm] at h; exact wpAny_tail hm ht hs hc hd m _ a _ ⟨by simp [hm], fun j oj _ hl => (by rw [getD_replicate_false] at hl; cases hl), fun t _ ht => getD_in (by simp; omega) (getD_replicate_false _ _)⟩ (wpAny_of_held _ _ _ _ h)
end
end Go.Proofs.YtbceapeoknngnaaGreatDoor
