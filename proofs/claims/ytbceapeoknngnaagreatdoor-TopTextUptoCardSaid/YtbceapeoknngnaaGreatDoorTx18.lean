/-
  link.items.
  link.typed.
  link.fields.
-/
import Derived.Test.YtbceapeoknngnaaGreatDoorTx17
set_option linter.unusedVariables false
namespace Go.Proofs.YtbceapeoknngnaaGreatDoor
open Go.RowKit
set_option maxRecDepth 100000
open Lib (hid)
theorem RdS.take {α : Type} {D : Lay α} {size : Nat} {S : Nat → Prop} {w : World} {ao : Option Addr} {n cap : Nat} {l : List α} (h : RdS D size S w (.slice ao n cap) l) (k : Nat) (hk : k ≤ n) : RdS D size S w (.slice ao k cap) (l.take k) := by
 obtain ⟨ao', cap', hv, hc, hm, hn, hf⟩ := h; simp only [Value.slice.injEq] at hv; obtain ⟨rfl, rfl, rfl⟩ := hv; refine ⟨ao, cap, by rw [List.length_take, Nat.min_eq_left hk], by rw [List.length_take]; omega, hm, hn, fun i hi => ?_⟩; rw [List.length_take] at hi; obtain ⟨b, o, cs, h1, h2, h3, h4, h5, h6⟩ := hf i (by omega); exact ⟨b, o, cs, h1, h2, h3, h4, h5, by rw [List.getElem_take]; exact h6⟩
set_option maxHeartbeats 1600000 in
theorem items_l (v : Value) (l : List Itm) (w : World) (hv : RdS DItm 2 All w v l) :
   Calls Tryz.prog 69 #[v] w fun e w' => e = .returned (.int .i64 (itemsN l)) ∧ Up w w' := by
 obtain ⟨ao, cap, rfl, hc1, hc2⟩ := hv.val; have Hv := hid hv; clear hv
 by_cases hlen : l.length < 1 ∨ 16 < l.length
 · (have hr : itemsN l = 5 := by rw [itemsN, if_pos hlen]); rw [hr]; (have h2 : (l.length : Int) < 1 ∨ (1 ≤ (l.length : Int) ∧ 16 < (l.length : Int)) := by omega); clear hlen; rcases h2 with h2 | ⟨h2, h3⟩
   all_goals
     go_enter Tryz.func69, Tryz.ntmps69
     go_wp2_with fail
     go_ret
     exact ⟨rfl, Up.refl _⟩
 · (have hr : itemsN l = firstN (l.mapIdx (itemN l)) := by rw [itemsN, if_neg hlen]); (have i1 : 1 ≤ (l.length : Int) := by omega); (have i16 : (l.length : Int) ≤ 16 := by omega); rw [hr]; clear hlen hr
   go_enter Tryz.func69, Tryz.ntmps69
   (go_wp2_with fail); (go_loopw [15] (fun i wr => ∃ k : Nat, k ≤ l.length ∧ i = .int .i64 k ∧ Up w wr ∧ ∀ j, (hj : j < l.length) → j < k → itemN l j l[j] = 0) (fun i _ => l.length - (intOf i).toNat)); case atStart => exact ⟨0, by omega, rfl, Up.refl _, fun j _ h => absurd h (by omega)⟩
   case round =>
     obtain ⟨k, hk, rfl, hu, hg⟩ := hrel; have Hg := hid hg; clear hg
     by_cases hlt : k < l.length
     · obtain ⟨b, o, cs, rfl, hb, hl, hcs, hd⟩ := (Hv.out.up stable_itm hu).at hlt; obtain ⟨hd, hx1, hx2⟩ := hd; subst hd; have c0 := hcs 0 _ rfl; have c1 := hcs 1 _ rfl; simp only [Nat.add_zero] at c0; clear hcs hl; (have j0 : (0 : Int) ≤ (k : Int) := by omega); (have j1 : (k : Int) < (l.length : Int) := by omega); have hgg := fun e => firstN_idx_at (q := itemN l) hlt Hg.out e; have Hgg := hid hgg; clear hgg; have Hgn := hid (fun e => zero_more (q := itemN l) hlt Hg.out e); have hu1 := hu.alloc (.cells #[.string ⟨l[k].name.toArray⟩, .int .i64 l[k].value] 164); have hbk := blk_new wr (.cells #[.string ⟨l[k].name.toArray⟩, .int .i64 l[k].value] 164) rfl; generalize hxx : l[k] = x at *; clear hxx; have Hu := hid hu; have Hu1 := hid hu1; have Hbk := hid hbk; clear hu hu1 hbk
       cases hn : named x.name with
       | false =>
         have hN := named_s ⟨x.name.toArray⟩ (wr.alloc (.cells #[.string ⟨x.name.toArray⟩, .int .i64 x.value] 164)); simp only at hN; rw [hn] at hN; have HN := hid hN; clear hN
         go_wp2_with (first
           | (go_at_call 121; go_must (refine HN.out.mono ?_; rintro e w2 ⟨rfl, hu2⟩)))
         go_ret
         (have hi : itemN l k x = 7 := by simp [itemN, hn]); exact ⟨ret_int (by rw [Hgg.out (by rw [hi]; decide), hi]), Hu1.out.trans hu2⟩
       | true =>
         have hN := named_s ⟨x.name.toArray⟩ (wr.alloc (.cells #[.string ⟨x.name.toArray⟩, .int .i64 x.value] 164)); simp only at hN; rw [hn] at hN; have HN := hid hN; clear hN
         go_wp2_with (first
           | (go_at_call 121; go_must (refine HN.out.mono ?_; rintro e w2 ⟨rfl, hu2⟩)))
         have hu12 := Hu1.out.trans hu2; have hb2 := hu2.blk Hbk.out; have p0 : w2.cell? ⟨wr.heap.size, 0, none⟩ = some (.string ⟨x.name.toArray⟩) := cell_of_row w2 _ 0 _ _ _ hb2; have p1 : w2.cell? ⟨wr.heap.size, 1, none⟩ = some (.int .i64 x.value) := cell_of_row w2 _ 1 _ _ _ hb2; have z2 := lt_of_block hb2; clear hu2 HN hb2 Hbk; refine (containsF_itm _ (l.take k) (fun y => x.name == y.name) 132 (enters_of Tryz.func132 (by kernel_rfl) rfl) #[.pointer (some ⟨wr.heap.size, 0, none⟩)] w2 ((Hv.out.up stable_itm hu12).take k (by omega)) (fun y cs wq _ hwq hd => items1 x _ y cs wq (Nat.lt_of_lt_of_le z2 hwq.size) (hwq.cell_some p0) hd)).mono ?_; rintro e w3 ⟨rfl, hu3⟩; have q1 := hu3.cell_some p1; have z3 : wr.heap.size < w3.heap.size := Nat.lt_of_lt_of_le z2 hu3.size; have Hu3 := hid (hu12.trans hu3); clear p0 p1 z2 hu3 hu12 Hu1
         cases ha : (l.take k).any (fun y => x.name == y.name) with
         | true =>
           go_wp2_with fail
           go_ret
           (have hi : itemN l k x = 7 := by simp only [itemN, hn, ha, Bool.not_true, Bool.false_or, if_true]); exact ⟨ret_int (by rw [Hgg.out (by rw [hi]; decide), hi]), Hu3.out⟩
         | false =>
           have hi1 : itemN l k x = if x.value < -2147483648 ∨ 2147483647 < x.value then 3 else if (k = 0 ∧ x.value ≠ 0) ∨ (l.take k).any (fun y => x.value == y.value) then 8 else 0 := by
             simp only [itemN, hn, ha, Bool.not_true, Bool.or_false, Bool.false_eq_true, if_false]
           have Hi1 := hid hi1; clear hi1; (have hcs : x.value < -2147483648 ∨ (-2147483648 ≤ x.value ∧ 2147483647 < x.value) ∨ (-2147483648 ≤ x.value ∧ x.value ≤ 2147483647) := by omega); rcases hcs with h | ⟨h, h'⟩ | ⟨h, h'⟩
           · go_wp2_with fail
             go_ret
             (have hi : itemN l k x = 3 := by rw [Hi1.out, if_pos (by omega)]); exact ⟨ret_int (by rw [Hgg.out (by rw [hi]; decide), hi]), Hu3.out⟩
           · go_wp2_with fail
             go_ret
             (have hi : itemN l k x = 3 := by rw [Hi1.out, if_pos (by omega)]); exact ⟨ret_int (by rw [Hgg.out (by rw [hi]; decide), hi]), Hu3.out⟩
           · have hcz : (k = 0 ∧ x.value ≠ 0) ∨ ¬ (k = 0 ∧ x.value ≠ 0) := Decidable.em _; (have hi2 : itemN l k x = if (k = 0 ∧ x.value ≠ 0) ∨ (l.take k).any (fun y => x.value == y.value) then 8 else 0 := by rw [Hi1.out, if_neg (by omega)]); have Hi2 := hid hi2; clear hi2 Hi1; rcases hcz with ⟨hk0, hv0⟩ | hcz
             · (have hi : itemN l k x = 8 := by rw [Hi2.out, if_pos (.inl ⟨hk0, hv0⟩)]); (have hk1 : ((k : Int) == 0) = true := by simp [hk0]); (have hv1 : (x.value != 0) = true := by simpa using hv0); have Hk0 := hid hk0; clear hk0; go_wp2_with fail
               go_ret
               exact ⟨ret_int (by rw [Hgg.out (by rw [hi]; decide), hi]), Hu3.out⟩
             · have hi3 : itemN l k x = if (l.take k).any (fun y => x.value == y.value) = true then 8 else 0 := by
                 rw [Hi2.out]; simp only [hcz, false_or]
               have Hi3 := hid hi3; clear hi3 Hi2
               have hkv : ((k : Int) == 0) = false ∨ (((k : Int) == 0) = true ∧ (x.value != 0) = false) := by
                 by_cases hk0 : k = 0
                 · right; refine ⟨by simp [hk0], ?_⟩; rw [bne_eq_false_iff_eq]; exact Decidable.byContradiction fun h => hcz ⟨hk0, h⟩
                 · left; rw [beq_eq_false_iff_ne]; omega
               have Hcz := hid hcz; clear hcz; rcases hkv with hk1 | ⟨hk1, hv1⟩
               all_goals
                 go_wp2_with (first
                   | (go_at_call 131; go_must (refine (containsF_itm _ (l.take k) (fun y => x.value == y.value) 133 (enters_of Tryz.func133 (by kernel_rfl) rfl) #[.pointer (some ⟨wr.heap.size, 0, none⟩)] w3 ((Hv.out.up stable_itm Hu3.out).take k (by omega)) (fun y cs wq _ hwq hd => items2 x _ y cs wq (Nat.lt_of_lt_of_le z3 hwq.size) (hwq.cell_some q1) hd)).mono ?_; rintro e w4 ⟨rfl, hu4⟩; have Hu4 := hid (Hu3.out.trans hu4); clear hu4; cases hb3 : (l.take k).any (fun y => x.value == y.value))))
                 · go_roundw
                   (case rel => exact ⟨k + 1, by omega, by go_num, Hu4.out, Hgn.out (by rw [Hi3.out, if_neg (by rw [hb3]; decide)])⟩); case measure => simp [intOf]; omega
                 · go_ret
                   (have hi : itemN l k x = 8 := by rw [Hi3.out, if_pos hb3]); exact ⟨ret_int (by rw [Hgg.out (by rw [hi]; decide), hi]), Hu4.out⟩
     · go_wp2_with fail
       go_ret
       exact ⟨ret_int (firstN_idx_none (fun j hj => Hg.out j hj (by omega))).symm, hu⟩
set_option maxHeartbeats 1600000 in
theorem typed_l (f : Fil) (x : Fld) (bf b o : Nat) (vm ve : Value) (w : World) (hf : FilV All w (.agg #[vm, ve]) f) (h0 : w.cell? ⟨bf, 0, none⟩ = some vm) (h1 : w.cell? ⟨bf, 1, none⟩ = some ve)
   (c2 : w.cell? ⟨b, o + 2, none⟩ = some (.int .i64 x.kind)) (c3 : w.cell? ⟨b, o + 3, none⟩ = some (.string ⟨x.type.toArray⟩)) (c4 : w.cell? ⟨b, o + 4, none⟩ = some (.bool x.many)) (c5 : w.cell? ⟨b, o + 5, none⟩ = some (.int .i64 x.choice)) :
   Calls Tryz.prog 130 #[.pointer (some ⟨bf, 0, none⟩), .pointer (some ⟨b, o, none⟩)] w fun e w' => e = .returned (.int .i64 (typedN f x)) ∧ Up w w' := by
 have Hf := hid hf; clear hf; (have hk : x.kind < 1 ∨ (1 ≤ x.kind ∧ 10 < x.kind) ∨ x.kind = 10 ∨ x.kind = 5 ∨ (1 ≤ x.kind ∧ x.kind ≤ 10 ∧ x.kind ≠ 10 ∧ x.kind ≠ 5) := by omega); rcases hk with h | ⟨h, h'⟩ | h | h | ⟨k1, k2, k3, k4⟩
 case inl =>
   go_enter Tryz.func130, Tryz.ntmps130
   go_wp2_with fail
   go_ret
   exact ⟨ret_int (by rw [typedN, if_pos (by omega)]), Up.refl _⟩
 case inr.inl =>
   go_enter Tryz.func130, Tryz.ntmps130
   go_wp2_with fail
   go_ret
   exact ⟨ret_int (by rw [typedN, if_pos (by omega)]), Up.refl _⟩
 case inr.inr.inl =>
   have hfm := fun w1 (hu : Up w w1) => find_msg_l _ f x.type w1 (Hf.out.up hu); have Hfm := hid hfm; clear hfm
   have hty : typedN f x = if idxP (fun m => m.name == x.type) f.msgs < 0 then 6 else if 0 < x.choice ∧ x.many = true then 8 else 0 := by
     unfold typedN; rw [h]; simp
   have Hty := hid hty; clear hty; generalize idxP (fun m => m.name == x.type) f.msgs = i at *; rw [h] at c2
   go_enter Tryz.func130, Tryz.ntmps130
   go_wp2_with fail
   go_region_held3 (fun w' => w'.cell? ⟨b, o + 2, none⟩ = some (.int .i64 10) ∧ w'.cell? ⟨b, o + 3, none⟩ = some (.string ⟨x.type.toArray⟩) ∧ w'.cell? ⟨bf, 0, none⟩ = some vm ∧ w'.cell? ⟨bf, 1, none⟩ = some ve) (first | go_keep | exact ⟨c2, c3, h0, h1⟩ | exact ⟨hx2.cell_some c2, hx2.cell_some c3, hx2.cell_some h0, hx2.cell_some h1⟩)
     (first | (go_at_call 81; refine (Hfm.out _ (Up.drew (Up.refl _))).mono ?_; rintro e w2 ⟨rfl, hu2⟩; have hx2 := (Up.drew (Up.refl _)).trans hu2))
   have d2 := hx2.cell_some c2; have d4 := hx2.cell_some c4; have d5 := hx2.cell_some c5
   by_cases hi : i < 0
   · go_wp2_with fail
     go_ret
     exact ⟨ret_int (by rw [Hty.out, if_pos hi]), hx2⟩
   · (have hi' : 0 ≤ i := by omega); clear hi; go_wp2_with fail
     go_quiet (fail)
     (have hch : x.choice ≤ 0 ∨ 0 < x.choice := by omega); rcases hch with hch | hch
     · go_wp2_with fail
       go_ret
       exact ⟨ret_int (by rw [Hty.out, if_neg (Int.not_lt.2 hi'), if_neg (by omega)]), hx2.drewN _⟩
     · cases hm : x.many
       all_goals
         rw [hm] at d4; go_wp2_with fail
         go_ret
       · exact ⟨ret_int (by rw [Hty.out, if_neg (Int.not_lt.2 hi'), if_neg (by simp [hm])]), hx2.drewN _⟩
       · exact ⟨ret_int (by rw [Hty.out, if_neg (Int.not_lt.2 hi'), if_pos ⟨hch, hm⟩]), hx2.drewN _⟩
 case inr.inr.inr.inl =>
   have hfm := fun w1 (hu : Up w w1) => find_enu_l _ f x.type w1 (Hf.out.up hu); have Hfm := hid hfm; clear hfm
   have hty : typedN f x = if idxP (fun m => m.name == x.type) f.enums < 0 then 6 else if 0 < x.choice ∧ x.many = true then 8 else 0 := by
     unfold typedN; rw [h]; simp
   have Hty := hid hty; clear hty; generalize idxP (fun m => m.name == x.type) f.enums = i at *; rw [h] at c2
   go_enter Tryz.func130, Tryz.ntmps130
   go_wp2_with fail
   go_quiet (fail)
   go_wp2_with fail
   go_region_held3 (fun w' => w'.cell? ⟨b, o + 2, none⟩ = some (.int .i64 5) ∧ w'.cell? ⟨b, o + 3, none⟩ = some (.string ⟨x.type.toArray⟩) ∧ w'.cell? ⟨bf, 0, none⟩ = some vm ∧ w'.cell? ⟨bf, 1, none⟩ = some ve) (first | go_keep | exact ⟨c2, c3, h0, h1⟩ | exact ⟨hx2.cell_some c2, hx2.cell_some c3, hx2.cell_some h0, hx2.cell_some h1⟩)
     (first | (go_at_call 82; refine (Hfm.out _ (Up.drew ((Up.refl _).drewN _))).mono ?_; rintro e w2 ⟨rfl, hu2⟩; have hx2 := (Up.drew ((Up.refl _).drewN _)).trans hu2))
   have d2 := hx2.cell_some c2; have d4 := hx2.cell_some c4; have d5 := hx2.cell_some c5
   by_cases hi : i < 0
   · go_wp2_with fail
     go_ret
     exact ⟨ret_int (by rw [Hty.out, if_pos hi]), hx2⟩
   · (have hi' : 0 ≤ i := by omega); clear hi; (have hch : x.choice ≤ 0 ∨ 0 < x.choice := by omega); rcases hch with hch | hch
     · go_wp2_with fail
       go_ret
       exact ⟨ret_int (by rw [Hty.out, if_neg (Int.not_lt.2 hi'), if_neg (by omega)]), hx2⟩
     · cases hm : x.many
       all_goals
         rw [hm] at d4; go_wp2_with fail
         go_ret
       · exact ⟨ret_int (by rw [Hty.out, if_neg (Int.not_lt.2 hi'), if_neg (by simp [hm])]), hx2⟩
       · exact ⟨ret_int (by rw [Hty.out, if_neg (Int.not_lt.2 hi'), if_pos ⟨hch, hm⟩]), hx2⟩
 case inr.inr.inr.inr =>
   (have e10 : (x.kind == 10) = false := by rw [beq_eq_false_iff_ne]; exact k3); (have e5 : (x.kind == 5) = false := by rw [beq_eq_false_iff_ne]; exact k4); (have n10 : (x.kind != 10) = true := by rw [bne_iff_ne]; exact k3); have n5 : (x.kind != 5) = true := by rw [bne_iff_ne]; exact k4
   have hty : typedN f x = if x.type ≠ [] then 8 else if 0 < x.choice ∧ x.many = true then 8 else 0 := by
     unfold typedN; rw [if_neg (by omega), if_neg (by omega)]
     by_cases ht : x.type = []
     · simp [ht]
     · rw [if_pos (.inl ⟨k3, k4, ht⟩), if_pos ht]
   have Hty := hid hty; clear hty; have K3 := hid k3; have K4 := hid k4; clear k3 k4
   go_enter Tryz.func130, Tryz.ntmps130
   go_wp2_with fail
   go_quiet (fail)
   go_wp2_with fail
   go_quiet (fail)
   by_cases ht : x.type = []
   · rw [ht] at c3; have d4 := c4; have Ht := hid ht; clear ht; (have hch : x.choice ≤ 0 ∨ 0 < x.choice := by omega); rcases hch with hch | hch
     · go_wp2_with fail
       go_ret
       exact ⟨ret_int (by rw [Hty.out, if_neg (not_not_intro Ht.out), if_neg (by omega)]), (Up.refl w).drewN _⟩
     · cases hm : x.many
       all_goals
         rw [hm] at c4 d4; go_wp2_with fail
         go_ret
       · exact ⟨ret_int (by rw [Hty.out, if_neg (not_not_intro Ht.out), if_neg (by simp [hm])]), (Up.refl w).drewN _⟩
       · exact ⟨ret_int (by rw [Hty.out, if_neg (not_not_intro Ht.out), if_pos ⟨hch, hm⟩]), (Up.refl w).drewN _⟩
   · (have hte : x.type.isEmpty = false := by simpa using ht); have Ht := hid ht; clear ht; go_wp2_with fail
     go_ret
     exact ⟨ret_int (by rw [Hty.out, if_pos Ht.out]), (Up.refl w).drewN _⟩
set_option maxHeartbeats 3200000 in
theorem fields_l (f : Fil) (m : Msg) (bf bm om : Nat) (vm ve vf vb : Value) (w : World) (hf : FilV All w (.agg #[vm, ve]) f) (h0 : w.cell? ⟨bf, 0, none⟩ = some vm) (h1 : w.cell? ⟨bf, 1, none⟩ = some ve)
   (m1 : w.cell? ⟨bm, om + 1, none⟩ = some vf) (m2 : w.cell? ⟨bm, om + 2, none⟩ = some vb) (hvf : RdS DFld 6 All w vf m.fields) (hvb : RdS DInt 1 All w vb m.barred) :
   Calls Tryz.prog 68 #[.pointer (some ⟨bf, 0, none⟩), .pointer (some ⟨bm, om, none⟩)] w fun e w' => e = .returned (.int .i64 (msgN f m)) ∧ Up w w' := by
 generalize hl : m.fields = l at hvf; obtain ⟨fo, fc, rfl, hf1, hf2⟩ := hvf.val; obtain ⟨bo, bc, rfl, hb1, hb2⟩ := hvb.val; have Hf := hid hf; have Hvf := hid hvf; have Hvb := hid hvb; clear hf hvf hvb
 by_cases hlen : 16 < l.length ∨ 16 < m.barred.length
 · (have hr : msgN f m = 5 := by rw [msgN, hl, if_pos hlen]); rw [hr]; (have h2 : 16 < (l.length : Int) ∨ ((l.length : Int) ≤ 16 ∧ 16 < (m.barred.length : Int)) := by omega); clear hlen; rcases h2 with h2 | ⟨h2, h3⟩
   --[
   all_goals
     go_enter Tryz.func68, Tryz.ntmps68
     go_wp2_with fail
     go_ret
     exact ⟨rfl, Up.refl _⟩
   --]
 · (have i1 : (l.length : Int) ≤ 16 := by omega); (have i2 : (m.barred.length : Int) ≤ 16 := by omega); have hcb := containsF_int _ m.barred (fun n => decide (n < 0 ∨ 536870912 ≤ n)) 125 (enters_of Tryz.func125 (by kernel_rfl) rfl) #[] w Hvb.out (fun n cs wq _ hwq hd => fields1 n wq); (have hr : msgN f m = if m.barred.any (fun n => decide (n < 0 ∨ 536870912 ≤ n)) = true then 3 else firstN (l.mapIdx (fieldN f m)) := by rw [msgN, hl, if_neg hlen]); have Hcb := hid hcb; have Hr := hid hr; clear hcb hr hlen; cases hbb : m.barred.any (fun n => decide (n < 0 ∨ 536870912 ≤ n))
   case true =>
     --[
     rw [hbb] at Hcb Hr
     go_enter Tryz.func68, Tryz.ntmps68
     go_wp2_with (first
       | (go_at_call 124; go_must (refine Hcb.out.mono ?_; rintro e w2 ⟨rfl, hu2⟩)))
     go_ret
     exact ⟨ret_int (by rw [Hr.out]; rfl), hu2⟩
     --]
   case false =>
     rw [hbb] at Hcb Hr; have hr : msgN f m = firstN (l.mapIdx (fieldN f m)) := Hr.out; rw [hr]; clear hr Hr
     go_enter Tryz.func68, Tryz.ntmps68
     (go_wp2_with fail); refine Hcb.out.mono ?_; rintro e w0 ⟨rfl, hu0⟩; have n1 := hu0.cell_some m1; have n2 := hu0.cell_some m2; have p0 := hu0.cell_some h0; have p1 := hu0.cell_some h1; (go_wp2_with fail); clear Hcb m1 m2 hbb h0 h1; (go_loopw [5, 34] (fun c i wr => ∃ k : Nat, k ≤ l.length ∧ i = .int .i64 k ∧ c = .int .i64 (begun 0 (l.take k)) ∧ Up w0 wr ∧ ∀ j, (hj : j < l.length) → j < k → fieldN f m j l[j] = 0) (fun _ i _ => l.length - (intOf i).toNat)); case atStart => exact ⟨0, by omega, rfl, rfl, Up.refl _, fun j _ h => absurd h (by omega)⟩
     case round =>
       obtain ⟨k, hk, rfl, rfl, hu, hg⟩ := hrel; have Hg := hid hg; clear hg
       by_cases hlt : k < l.length
       · have Hvr := hid (Hvf.out.up stable_fld (hu0.trans hu)); obtain ⟨b, o, cs, rfl, hb, hcl, hcs, hd⟩ := Hvr.out.at hlt; obtain ⟨hd, hx1, hx2, hx3, hx4, hx5⟩ := hd; subst hd; have c0 := hcs 0 _ rfl; have c1 := hcs 1 _ rfl; have c2 := hcs 2 _ rfl; have c3 := hcs 3 _ rfl; have c4 := hcs 4 _ rfl; have c5 := hcs 5 _ rfl; simp only [Nat.add_zero] at c0; clear hcs hcl; (have j0 : (0 : Int) ≤ (k : Int) := by omega); (have j1 : (k : Int) < (l.length : Int) := by omega); have Hgg := hid (fun e => firstN_idx_at (q := fieldN f m) hlt Hg.out e); have Hgn := hid (fun e => zero_more (q := fieldN f m) hlt Hg.out e)
         have hfN : fieldN f m k l[k] = if !named l[k].name || (l.take k).any (fun y => l[k].name == y.name) then 7
             else if l[k].number < 1 ∨ 536870912 ≤ l[k].number ∨ (19000 ≤ l[k].number ∧ l[k].number < 20000) then 3
             else if m.barred.any (fun n => l[k].number == n) || (l.take k).any (fun y => l[k].number == y.number) then 8
             else if typedN f l[k] ≠ 0 then typedN f l[k]
             else if l[k].choice ≠ 0 ∧ l[k].choice ≠ lastC (l.take k) ∧ l[k].choice ≠ begun 0 (l.take k) + 1 then 2 else 0 := by
           unfold fieldN; rw [hl]
         have HfN := hid hfN; clear hfN; have n1r := hu.cell_some n1; have n2r := hu.cell_some n2; generalize hxx : l[k] = x at *; have hu1 := hu.alloc (.cells #[.pointer (some ⟨b, o + k * 6, none⟩)] 64); have hbk := blk_new wr (.cells #[.pointer (some ⟨b, o + k * 6, none⟩)] 64) rfl; have hN := named_s ⟨x.name.toArray⟩ (wr.alloc (.cells #[.pointer (some ⟨b, o + k * 6, none⟩)] 64)); simp only at hN; have Hu := hid hu; have Hu1 := hid hu1; have Hbk := hid hbk; have Hxx := hid hxx; clear hu hu1 hbk hxx
         cases hn : named x.name with
         | false =>
           --[
           rw [hn] at hN; have HN := hid hN; clear hN
           go_wp2_with (first
             | (go_at_call 121; go_must (refine HN.out.mono ?_; rintro e w2 ⟨rfl, hu2⟩)))
           go_ret
           (have hi : fieldN f m k x = 7 := by rw [HfN.out, hn]; rfl); exact ⟨ret_int (by rw [Hgg.out (by rw [hi]; decide), hi]), hu0.trans (Hu1.out.trans hu2)⟩
           --]
         | true =>
           rw [hn] at hN; have HN := hid hN; clear hN
           go_wp2_with (first
             | (go_at_call 121; go_must (refine HN.out.mono ?_; rintro e w2 ⟨rfl, hu2⟩; have r1 := (((Up.refl wr).alloc (.cells #[.pointer (some ⟨b, o + k * 6, none⟩)] 64)).trans hu2).cell_some n1r)))
           have hu12 := Hu1.out.trans hu2; have uw : Up wr w2 := (Up.alloc (Up.refl wr) _).trans hu2; have hb2 := hu2.blk Hbk.out; have pb : w2.cell? ⟨wr.heap.size, 0, none⟩ = some (.pointer (some ⟨b, o + k * 6, none⟩)) := cell_of_row w2 _ 0 _ _ _ hb2; have z2 := lt_of_block hb2; have zb : b < w2.heap.size := Nat.lt_of_lt_of_le hb uw.size; have d0 := uw.cell_some c0; clear hb2 Hbk HN hu2 Hu1; refine (containsF_fld _ (l.take k) (fun y => x.name == y.name) 127 (enters_of Tryz.func127 (by kernel_rfl) rfl) #[.pointer (some ⟨wr.heap.size, 0, none⟩)] w2 ((Hvr.out.up stable_fld uw).take k (by omega)) (fun y cs wq _ hwq hd => fields2 x wr.heap.size b (o + k * 6) y cs wq (Nat.lt_of_lt_of_le zb hwq.size) (Nat.lt_of_lt_of_le z2 hwq.size) (hwq.cell_some pb) (hwq.cell_some d0) hd)).mono ?_; rintro e w3 ⟨rfl, hu3⟩; have U3 := hid (uw.trans hu3); have V3 := hid (hu12.trans hu3); have q := hu3.cell_some pb; have z3 : wr.heap.size < w3.heap.size := Nat.lt_of_lt_of_le z2 hu3.size; clear pb z2 zb d0 hu12 uw hu3 n1r r1 c0; have r1 := U3.out.cell_some (Hu.out.cell_some n1); have r2 := U3.out.cell_some n2r; have e1 := U3.out.cell_some c1; have e5 := U3.out.cell_some c5; clear c1 n2r n2
           cases ha : (l.take k).any (fun y => x.name == y.name) with
           | true =>
             --[
             go_wp2_with fail
             go_ret
             (have hi : fieldN f m k x = 7 := by rw [HfN.out, hn, ha]; rfl); exact ⟨ret_int (by rw [Hgg.out (by rw [hi]; decide), hi]), hu0.trans V3.out⟩
             --]
           | false =>
             have hi1 : fieldN f m k x = if x.number < 1 ∨ 536870912 ≤ x.number ∨ (19000 ≤ x.number ∧ x.number < 20000) then 3
                 else if m.barred.any (fun n => x.number == n) || (l.take k).any (fun y => x.number == y.number) then 8
                 else if typedN f x ≠ 0 then typedN f x
                 else if x.choice ≠ 0 ∧ x.choice ≠ lastC (l.take k) ∧ x.choice ≠ begun 0 (l.take k) + 1 then 2 else 0 := by
               rw [HfN.out, hn, ha]; rfl
             have Hi1 := hid hi1; clear hi1 HfN; (have hcs : x.number < 1 ∨ (1 ≤ x.number ∧ 536870912 ≤ x.number) ∨ (1 ≤ x.number ∧ x.number < 536870912 ∧ 19000 ≤ x.number ∧ x.number < 20000) ∨ (1 ≤ x.number ∧ x.number < 536870912 ∧ x.number < 19000) ∨ (1 ≤ x.number ∧ x.number < 536870912 ∧ 19000 ≤ x.number ∧ 20000 ≤ x.number) := by omega); have hbad : (x.number < 1 ∨ 536870912 ≤ x.number ∨ (19000 ≤ x.number ∧ x.number < 20000)) → fieldN f m k x = 3 := fun h => by rw [Hi1.out, if_pos h]
             have hgood : ¬ (x.number < 1 ∨ 536870912 ≤ x.number ∨ (19000 ≤ x.number ∧ x.number < 20000)) → fieldN f m k x = if m.barred.any (fun n => x.number == n) || (l.take k).any (fun y => x.number == y.number) then 8
                 else if typedN f x ≠ 0 then typedN f x
                 else if x.choice ≠ 0 ∧ x.choice ≠ lastC (l.take k) ∧ x.choice ≠ begun 0 (l.take k) + 1 then 2 else 0 := fun h => by rw [Hi1.out, if_neg h]
             have Hbad := hid hbad; have Hgood := hid hgood; clear hbad hgood Hi1; rcases hcs with h | ⟨h, h2⟩ | ⟨h, h2, h3, h4⟩ | ⟨h, h2, h3⟩ | ⟨h, h2, h3, h4⟩
             case inl =>
               --[
               go_wp2_with fail
               go_ret
               have hi := Hbad.out (by omega); exact ⟨ret_int (by rw [Hgg.out (by rw [hi]; decide), hi]), hu0.trans V3.out⟩
               --]
             case inr.inl =>
               --[
               go_wp2_with fail
               go_ret
               have hi := Hbad.out (by omega); exact ⟨ret_int (by rw [Hgg.out (by rw [hi]; decide), hi]), hu0.trans V3.out⟩
               --]
             case inr.inr.inl =>
               --[
               go_wp2_with fail
               go_ret
               have hi := Hbad.out (by omega); exact ⟨ret_int (by rw [Hgg.out (by rw [hi]; decide), hi]), hu0.trans V3.out⟩
               --]
             --S case inr.inr.inr.inl => sorry
             all_goals
               have Hok := hid (Hgood.out (by omega)); clear Hgood Hbad; have HV := hid (hu0.trans V3.out); have hzb : b < w3.heap.size := Nat.lt_of_lt_of_le hb U3.out.size; have hcc := fun w1 (hu : Up w3 w1) => contains_int _ m.barred x.number w1 (Hvb.out.up stable_int (HV.out.trans hu)); have hcf := fun w1 (hu : Up w3 w1) => containsF_fld _ (l.take k) (fun y => x.number == y.number) 129 (enters_of Tryz.func129 (by kernel_rfl) rfl) #[.pointer (some ⟨wr.heap.size, 0, none⟩)] w1 ((Hvr.out.up stable_fld (U3.out.trans hu)).take k (by omega)) (fun y cs wq _ hwq hd => fields3 x wr.heap.size b (o + k * 6) y cs wq (Nat.lt_of_lt_of_le hzb (hu.trans hwq).size) (Nat.lt_of_lt_of_le z3 (hu.trans hwq).size) ((hu.trans hwq).cell_some q) ((hu.trans hwq).cell_some e1) hd); have htt := fun w1 (hu : Up w3 w1) => typed_l f x bf b (o + k * 6) vm ve w1 (Hf.out.up (HV.out.trans hu)) ((V3.out.trans hu).cell_some p0) ((V3.out.trans hu).cell_some p1) ((U3.out.trans hu).cell_some c2) ((U3.out.trans hu).cell_some c3) ((U3.out.trans hu).cell_some c4) ((U3.out.trans hu).cell_some c5); have Htt := hid htt; clear htt
               cases hb8 : m.barred.any (fun n => x.number == n) with
               | true =>
                 --[
                 simp only [hb8] at hcc; have Hcc := hid hcc; clear hcc hcf Htt; go_wp2_with fail
                 go_quiet ((go_at_call 128; exact Calls.quiet_of_same (Hcc.out _ (Up.drewN (Up.refl _) _))))
                 go_wp2_with fail
                 go_ret
                 (have hi : fieldN f m k x = 8 := by rw [Hok.out, hb8]; rfl); exact ⟨ret_int (by rw [Hgg.out (by rw [hi]; decide), hi]), HV.out.drewN _⟩
                 --]
               | false =>
                 simp only [hb8] at hcc; have Hcc := hid hcc; clear hcc; (have j2 : (k : Int) ≤ (l.length : Int) := by omega); have j3 : (k : Int) ≤ (fc : Int) := by omega
                 cases hb9 : (l.take k).any (fun y => x.number == y.number) with
                 | true =>
                   --[
                   simp only [hb9] at hcf; have Hcf := hid hcf; clear hcf; go_wp2_with fail
                   go_region_held3 (fun w' => w'.cell? ⟨bm, om + 1, none⟩ = some (.slice (some ⟨b, o, none⟩) l.length fc) ∧ w'.cell? ⟨bm, om + 2, none⟩ = some (.slice bo m.barred.length bc) ∧ w'.cell? ⟨wr.heap.size, 0, none⟩ = some (.pointer (some ⟨b, o + k * 6, none⟩)) ∧ w'.cell? ⟨b, o + k * 6 + 1, none⟩ = some (.int .i64 x.number)) (first | go_keep | exact ⟨r1, r2, q, e1⟩ | exact ⟨hx4.cell_some r1, hx4.cell_some r2, hx4.cell_some q, hx4.cell_some e1⟩)
                     (first | (go_at_call 128; refine (Hcc.out _ (Up.drew (Up.refl _))).mono ?_; rintro e w4 ⟨rfl, rfl⟩) | (go_at_call 126; refine (Hcf.out _ (Up.drew (Up.refl _))).mono ?_; rintro e w4 ⟨rfl, hu4⟩; have hx4 := (Up.drew (Up.refl _)).trans hu4))
                   go_wp2_with fail
                   go_ret
                   (have hi : fieldN f m k x = 8 := by rw [Hok.out, hb8, hb9]; rfl); exact ⟨ret_int (by rw [Hgg.out (by rw [hi]; decide), hi]), HV.out.trans hx4⟩
                   --]
                 | false =>
                   simp only [hb9] at hcf; have Hcf := hid hcf; clear hcf; go_wp2_with fail
                   go_region_held3 (fun w' => w'.cell? ⟨bm, om + 1, none⟩ = some (.slice (some ⟨b, o, none⟩) l.length fc) ∧ w'.cell? ⟨bm, om + 2, none⟩ = some (.slice bo m.barred.length bc) ∧ w'.cell? ⟨wr.heap.size, 0, none⟩ = some (.pointer (some ⟨b, o + k * 6, none⟩)) ∧ w'.cell? ⟨b, o + k * 6 + 1, none⟩ = some (.int .i64 x.number)) (first | go_keep | exact ⟨r1, r2, q, e1⟩ | exact ⟨hx4.cell_some r1, hx4.cell_some r2, hx4.cell_some q, hx4.cell_some e1⟩)
                     (first | (go_at_call 128; refine (Hcc.out _ (Up.drew (Up.refl _))).mono ?_; rintro e w4 ⟨rfl, rfl⟩) | (go_at_call 126; refine (Hcf.out _ (Up.drew (Up.refl _))).mono ?_; rintro e w4 ⟨rfl, hu4⟩; have hx4 := (Up.drew (Up.refl _)).trans hu4))
                   (have hok2 : fieldN f m k x = if typedN f x ≠ 0 then typedN f x else if x.choice ≠ 0 ∧ x.choice ≠ lastC (l.take k) ∧ x.choice ≠ begun 0 (l.take k) + 1 then 2 else 0 := by rw [Hok.out, hb8, hb9]; rfl); have s4 := hx4.cell_some q; have Hx4 := hid hx4; have Hok2 := hid hok2; clear hx4 hok2 hu4 Hok Hcc Hcf hb8 hb9; (go_wp2_with fail); refine (Htt.out _ Hx4.out).mono ?_; rintro e w5 ⟨rfl, hu5⟩; have H5 := hid (Hx4.out.trans hu5); clear hu5 s4 Htt; have r5 := H5.out.cell_some r1; have s5 := H5.out.cell_some q; have t5 := H5.out.cell_some e5
                   by_cases ht : typedN f x = 0
                   · have HT := hid ht; rw [ht]; clear ht; have hbt := begun_take hlt; rw [Hxx.out] at hbt; have hbd := begun_bd (l.take k) 0; (have hlt16 : (l.take k).length ≤ 16 := by rw [List.length_take]; omega); have hlast : ∃ lst, lst = lastC (l.take k) := ⟨_, rfl⟩; obtain ⟨lst, hlst⟩ := hlast; (have hok3 : fieldN f m k x = if x.choice ≠ 0 ∧ x.choice ≠ lst ∧ x.choice ≠ begun 0 (l.take k) + 1 then 2 else 0 := by rw [Hok2.out, HT.out, hlst]; rfl); rw [← hlst] at hbt; generalize begun 0 (l.take k) = g at *; generalize x.choice = c at *; (have hcase : c = 0 ∨ (c ≠ 0 ∧ c = lst) ∨ (c ≠ 0 ∧ c ≠ lst ∧ c = g + 1) ∨ (c ≠ 0 ∧ c ≠ lst ∧ c ≠ g + 1) := by omega); have g0 : 0 ≤ g := hbd.1; (have g16 : g ≤ 16 := by omega); have H0 := hid (fun e => Hgn.out e); clear Hok2 Hgn; have Hbt := hid hbt; have Hok3 := hid hok3; clear hbt hok3 hbd hlt16; have hrel : ∀ wz, Up w3 wz → ∀ g', g' = begun 0 (l.take (k + 1)) → fieldN f m k x = 0 → ∃ k1 : Nat, k1 ≤ l.length ∧ Value.int .i64 ((k : Int) + 1) = .int .i64 k1 ∧ Value.int .i64 g' = .int .i64 (begun 0 (l.take k1)) ∧ Up w0 wz ∧ ∀ j, (hj : j < l.length) → j < k1 → fieldN f m j l[j] = 0 := fun wz hu g' hg hf0 => ⟨k + 1, by omega, by go_num, by rw [hg], V3.out.trans hu, H0.out hf0⟩; have Hrel := hid hrel; clear hrel
                     by_cases hk0 : k = 0
                     · (have hlst0 : lst = 0 := by rw [hlst, hk0]; rfl); (have k00 : (k : Int) ≤ 0 := by omega); have Hk0 := hid hk0; have Hlst := hid hlst; clear hk0 hlst; subst hlst0; rcases hcase with hc | ⟨hc, hc2⟩ | ⟨hc, hc2, hc3⟩ | ⟨hc, hc2, hc3⟩
                       · (have n0 : (c != 0) = false := by simp [hc]); have Hc := hid hc; clear hc; (go_wp2_with fail); exact ⟨Hrel.out _ H5.out g (by rw [Hbt.out, if_neg (fun h => h.1 Hc.out), Int.add_zero]) (by rw [Hok3.out, if_neg (fun h => h.1 Hc.out)]), by simp [intOf]; omega⟩
                       · exact absurd hc2 hc
                       · (have n0 : (c != 0) = true := by simpa using hc); (have n2 : (c != g + 1) = false := by simp [hc3]); have Hc := hid hc; have Hc2 := hid hc2; have Hc3 := hid hc3; clear hc hc2 hc3; (go_wp2_with fail); exact ⟨Hrel.out _ H5.out (g + 1) (by rw [Hbt.out, if_pos ⟨Hc.out, Hc2.out⟩]) (by rw [Hok3.out, if_neg (fun h => h.2.2 Hc3.out)]), by simp [intOf]; omega⟩
                       · (have n0 : (c != 0) = true := by simpa using hc); (have n2 : (c != g + 1) = true := by simpa using hc3); have Hc := hid hc; have Hc2 := hid hc2; have Hc3 := hid hc3; clear hc hc2 hc3; go_wp2_with fail
                         go_ret
                         (have hi : fieldN f m k x = 2 := by rw [Hok3.out, if_pos ⟨Hc.out, Hc2.out, Hc3.out⟩]); exact ⟨ret_int (by rw [Hgg.out (by rw [hi]; decide), hi]), HV.out.trans H5.out⟩
                     · (have k1 : 0 < (k : Int) := by omega); have hl1 := lastC_take (l := l) (k := k) (by omega) (by omega); rw [← hlst] at hl1; obtain ⟨b', o', cs, he, _, hcl, hcs, hd⟩ := Hvr.out.at (i := k - 1) (by omega); simp only [Option.some.injEq, Addr.mk.injEq, and_true] at he; obtain ⟨rfl, rfl⟩ := he; obtain ⟨hd, _⟩ := hd; have hp := hcs 5 (.int .i64 lst) (by rw [hd, hl1]; rfl); have p5 := (U3.out.trans H5.out).cell_some hp; have Hk0 := hid hk0; have Hlst := hid hlst; clear hk0 hlst hd hcs hl1 hp; (have kz : ((k : Int) - 1).toNat = k - 1 := by omega); (have kz0 : 0 ≤ (k : Int) - 1 := by omega); (have kz1 : (k : Int) - 1 < l.length := by omega); rcases hcase with hc | ⟨hc, hc2⟩ | ⟨hc, hc2, hc3⟩ | ⟨hc, hc2, hc3⟩
                       · (have n0 : (c != 0) = false := by simp [hc]); have Hc := hid hc; clear hc; (go_wp2_with fail); exact ⟨Hrel.out _ H5.out g (by rw [Hbt.out, if_neg (fun h => h.1 Hc.out), Int.add_zero]) (by rw [Hok3.out, if_neg (fun h => h.1 Hc.out)]), by simp [intOf]; omega⟩
                       · (have n0 : (c != 0) = true := by simpa using hc); (have n1 : (c != lst) = false := by simp [hc2]); have Hc2 := hid hc2; clear hc hc2; (go_wp2_with fail); exact ⟨Hrel.out _ H5.out g (by rw [Hbt.out, if_neg (fun h => h.2 Hc2.out), Int.add_zero]) (by rw [Hok3.out, if_neg (fun h => h.2.1 Hc2.out)]), by simp [intOf]; omega⟩
                       · (have n0 : (c != 0) = true := by simpa using hc); (have n1 : (c != lst) = true := by simpa using hc2); (have n2 : (c != g + 1) = false := by simp [hc3]); have Hc := hid hc; have Hc2 := hid hc2; have Hc3 := hid hc3; clear hc hc2 hc3; (go_wp2_with fail); exact ⟨Hrel.out _ H5.out (g + 1) (by rw [Hbt.out, if_pos ⟨Hc.out, Hc2.out⟩]) (by rw [Hok3.out, if_neg (fun h => h.2.2 Hc3.out)]), by simp [intOf]; omega⟩
                       · (have n0 : (c != 0) = true := by simpa using hc); (have n1 : (c != lst) = true := by simpa using hc2); (have n2 : (c != g + 1) = true := by simpa using hc3); have Hc := hid hc; have Hc2 := hid hc2; have Hc3 := hid hc3; clear hc hc2 hc3; go_wp2_with fail
                         go_ret
                         (have hi : fieldN f m k x = 2 := by rw [Hok3.out, if_pos ⟨Hc.out, Hc2.out, Hc3.out⟩]); exact ⟨ret_int (by rw [Hgg.out (by rw [hi]; decide), hi]), HV.out.trans H5.out⟩
                   · --[
                     (have hb : (typedN f x != 0) = true := by simpa using ht); have Ht := hid ht; clear ht; go_wp2_with fail
                     go_ret
                     (have hi : fieldN f m k x = typedN f x := by rw [Hok2.out, if_pos Ht.out]); exact ⟨ret_int (by rw [Hgg.out (by rw [hi]; exact Ht.out), hi]), HV.out.trans H5.out⟩
                     --]
       · go_wp2_with fail
         go_ret
         exact ⟨ret_int (firstN_idx_none (fun j hj => Hg.out j hj (by omega))).symm, hu0.trans hu⟩
end Go.Proofs.YtbceapeoknngnaaGreatDoor
