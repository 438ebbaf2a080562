/-
  link.items.
  link.typed.
-/
import Derived.Test.YtbceapeoknngnaaGreatDoorCp26
import Derived.Test.YtbceapeoknngnaaGreatDoorCp20
import Derived.Test.YtbceapeoknngnaaGreatDoorCp04
import Derived.Test.YtbceapeoknngnaaGreatDoorCp05
import Derived.Outline
import Derived.Deep.DeepMust
import Derived.BigQuiet
import Derived.Deep.QuietTactic
import Derived.Deep.RegionHeld3
set_option linter.unusedVariables false
namespace Go.Proofs.YtbceapeoknngnaaGreatDoor
open Go.RowKit
theorem RdS.take {α : Type} {D : Lay α} {size : Nat} {S : Nat → Prop} {w : World} {ao : Option Addr} {n cap : Nat} {l : List α} (h : RdS D size S w (.slice ao n cap) l) (k : Nat) (hk : k ≤ n) : RdS D size S w (.slice ao k cap) (l.take k) := by
  obtain ⟨ao', cap', hv, hc, hm, hn, hf⟩ := h
  simp only [Value.slice.injEq] at hv
  obtain ⟨rfl, rfl, rfl⟩ := hv
  refine ⟨ao, cap, by rw [List.length_take, Nat.min_eq_left hk], by rw [List.length_take]; omega, hm, hn, fun i hi => ?_⟩
  rw [List.length_take] at hi
  obtain ⟨b, o, cs, h1, h2, h3, h4, h5, h6⟩ := hf i (by omega)
  exact ⟨b, o, cs, h1, h2, h3, h4, h5, by rw [List.getElem_take]; exact h6⟩
set_option maxRecDepth 100000 in
set_option maxHeartbeats 1600000 in
theorem items_l (v : Value) (l : List Itm) (w : World) (hv : RdS DItm 2 All w v l) :
    Calls Tryz.prog 69 #[v] w fun e w' => e = .returned (.int .i64 (itemsN l)) ∧ Up w w' := by
  obtain ⟨ao, cap, rfl, hc1, hc2⟩ := hv.val
  have Hv := Lib.hid hv; clear hv
  by_cases hlen : l.length < 1 ∨ 16 < l.length
  · have hr : itemsN l = 5 := by rw [itemsN, if_pos hlen]
    rw [hr]
    have h2 : (l.length : Int) < 1 ∨ (1 ≤ (l.length : Int) ∧ 16 < (l.length : Int)) := by omega
    clear hlen
    rcases h2 with h2 | ⟨h2, h3⟩
    all_goals
      go_enter Tryz.func69, Tryz.ntmps69
      go_wp2_with fail
      go_ret
      exact ⟨rfl, Up.refl _⟩
  · have hr : itemsN l = firstN (l.mapIdx (itemN l)) := by rw [itemsN, if_neg hlen]
    have i1 : 1 ≤ (l.length : Int) := by omega
    have i16 : (l.length : Int) ≤ 16 := by omega
    rw [hr]
    clear hlen hr
    go_enter Tryz.func69, Tryz.ntmps69
    go_wp2_with fail
    go_loopw [15] (fun i wr => ∃ k : Nat, k ≤ l.length ∧ i = .int .i64 k ∧ Up w wr ∧ ∀ j, (hj : j < l.length) → j < k → itemN l j l[j] = 0) (fun i _ => l.length - (intOf i).toNat)
    case atStart => exact ⟨0, by omega, rfl, Up.refl _, fun j _ h => absurd h (by omega)⟩
    case round =>
      obtain ⟨k, hk, rfl, hu, hg⟩ := hrel
      have Hg := Lib.hid hg; clear hg
      by_cases hlt : k < l.length
      · obtain ⟨b, o, cs, rfl, hb, hl, hcs, hd⟩ := (Hv.out.up stable_itm hu).at hlt
        obtain ⟨hd, hx1, hx2⟩ := hd
        subst hd
        have c0 := hcs 0 _ rfl
        have c1 := hcs 1 _ rfl
        simp only [Nat.add_zero] at c0
        clear hcs hl
        have j0 : (0 : Int) ≤ (k : Int) := by omega
        have j1 : (k : Int) < (l.length : Int) := by omega
        have hgg := fun e => firstN_idx_at (q := itemN l) hlt Hg.out e
        have Hgg := Lib.hid hgg; clear hgg
        have Hgn := Lib.hid (fun e => zero_more (q := itemN l) hlt Hg.out e)
        have hu1 := hu.alloc (.cells #[.string ⟨l[k].name.toArray⟩, .int .i64 l[k].value] 164)
        have hbk := blk_new wr (.cells #[.string ⟨l[k].name.toArray⟩, .int .i64 l[k].value] 164) rfl
        generalize hxx : l[k] = x at *
        clear hxx
        have Hu := Lib.hid hu; have Hu1 := Lib.hid hu1; have Hbk := Lib.hid hbk; clear hu hu1 hbk
        cases hn : named x.name with
        | false =>
          have hN := named_s ⟨x.name.toArray⟩ (wr.alloc (.cells #[.string ⟨x.name.toArray⟩, .int .i64 x.value] 164))
          simp only at hN
          rw [hn] at hN
          have HN := Lib.hid hN; clear hN
          go_wp2_with (first
            | (go_at_call 121; go_must (refine HN.out.mono ?_; rintro e w2 ⟨rfl, hu2⟩)))
          go_ret
          have hi : itemN l k x = 7 := by simp [itemN, hn]
          exact ⟨ret_int (by rw [Hgg.out (by rw [hi]; decide), hi]), Hu1.out.trans hu2⟩
        | true =>
          have hN := named_s ⟨x.name.toArray⟩ (wr.alloc (.cells #[.string ⟨x.name.toArray⟩, .int .i64 x.value] 164))
          simp only at hN
          rw [hn] at hN
          have HN := Lib.hid hN; clear hN
          go_wp2_with (first
            | (go_at_call 121; go_must (refine HN.out.mono ?_; rintro e w2 ⟨rfl, hu2⟩)))
          have hu12 := Hu1.out.trans hu2
          have hb2 := hu2.blk Hbk.out
          have p0 : w2.cell? ⟨wr.heap.size, 0, none⟩ = some (.string ⟨x.name.toArray⟩) := cell_of_row w2 _ 0 _ _ _ hb2
          have p1 : w2.cell? ⟨wr.heap.size, 1, none⟩ = some (.int .i64 x.value) := cell_of_row w2 _ 1 _ _ _ hb2
          have z2 := lt_of_block hb2
          clear hu2 HN hb2 Hbk
          refine (containsF_itm _ (l.take k) (fun y => x.name == y.name) 132 (enters_of Tryz.func132 (by kernel_rfl) rfl) #[.pointer (some ⟨wr.heap.size, 0, none⟩)] w2 ((Hv.out.up stable_itm hu12).take k (by omega)) (fun y cs wq _ hwq hd => items1 x _ y cs wq (Nat.lt_of_lt_of_le z2 hwq.size) (hwq.cell_some p0) hd)).mono ?_
          rintro e w3 ⟨rfl, hu3⟩
          have q1 := hu3.cell_some p1
          have z3 : wr.heap.size < w3.heap.size := Nat.lt_of_lt_of_le z2 hu3.size
          have Hu3 := Lib.hid (hu12.trans hu3)
          clear p0 p1 z2 hu3 hu12 Hu1
          cases ha : (l.take k).any (fun y => x.name == y.name) with
          | true =>
            go_wp2_with fail
            go_ret
            have hi : itemN l k x = 7 := by simp only [itemN, hn, ha, Bool.not_true, Bool.false_or, if_true]
            exact ⟨ret_int (by rw [Hgg.out (by rw [hi]; decide), hi]), Hu3.out⟩
          | false =>
            have hi1 : itemN l k x = if x.value < -2147483648 ∨ 2147483647 < x.value then 3 else if (k = 0 ∧ x.value ≠ 0) ∨ (l.take k).any (fun y => x.value == y.value) then 8 else 0 := by
              simp only [itemN, hn, ha, Bool.not_true, Bool.or_false, Bool.false_eq_true, if_false]
            have Hi1 := Lib.hid hi1; clear hi1
            have hcs : x.value < -2147483648 ∨ (-2147483648 ≤ x.value ∧ 2147483647 < x.value) ∨ (-2147483648 ≤ x.value ∧ x.value ≤ 2147483647) := by omega
            rcases hcs with h | ⟨h, h'⟩ | ⟨h, h'⟩
            · go_wp2_with fail
              go_ret
              have hi : itemN l k x = 3 := by rw [Hi1.out, if_pos (by omega)]
              exact ⟨ret_int (by rw [Hgg.out (by rw [hi]; decide), hi]), Hu3.out⟩
            · go_wp2_with fail
              go_ret
              have hi : itemN l k x = 3 := by rw [Hi1.out, if_pos (by omega)]
              exact ⟨ret_int (by rw [Hgg.out (by rw [hi]; decide), hi]), Hu3.out⟩
            · have hcz : (k = 0 ∧ x.value ≠ 0) ∨ ¬ (k = 0 ∧ x.value ≠ 0) := Decidable.em _
              have hi2 : itemN l k x = if (k = 0 ∧ x.value ≠ 0) ∨ (l.take k).any (fun y => x.value == y.value) then 8 else 0 := by rw [Hi1.out, if_neg (by omega)]
              have Hi2 := Lib.hid hi2; clear hi2 Hi1
              rcases hcz with ⟨hk0, hv0⟩ | hcz
              · have hi : itemN l k x = 8 := by rw [Hi2.out, if_pos (.inl ⟨hk0, hv0⟩)]
                have hk1 : ((k : Int) == 0) = true := by simp [hk0]
                have hv1 : (x.value != 0) = true := by simpa using hv0
                have Hk0 := Lib.hid hk0; clear hk0
                go_wp2_with fail
                go_ret
                exact ⟨ret_int (by rw [Hgg.out (by rw [hi]; decide), hi]), Hu3.out⟩
              · have hi3 : itemN l k x = if (l.take k).any (fun y => x.value == y.value) = true then 8 else 0 := by
                  rw [Hi2.out]
                  simp only [hcz, false_or]
                have Hi3 := Lib.hid hi3; clear hi3 Hi2
                have hkv : ((k : Int) == 0) = false ∨ (((k : Int) == 0) = true ∧ (x.value != 0) = false) := by
                  by_cases hk0 : k = 0
                  · right
                    refine ⟨by simp [hk0], ?_⟩
                    rw [bne_eq_false_iff_eq]
                    exact Decidable.byContradiction fun h => hcz ⟨hk0, h⟩
                  · left; rw [beq_eq_false_iff_ne]; omega
                have Hcz := Lib.hid hcz; clear hcz
                rcases hkv with hk1 | ⟨hk1, hv1⟩
                all_goals
                  go_wp2_with (first
                    | (go_at_call 131; go_must (refine (containsF_itm _ (l.take k) (fun y => x.value == y.value) 133 (enters_of Tryz.func133 (by kernel_rfl) rfl) #[.pointer (some ⟨wr.heap.size, 0, none⟩)] w3 ((Hv.out.up stable_itm Hu3.out).take k (by omega)) (fun y cs wq _ hwq hd => items2 x _ y cs wq (Nat.lt_of_lt_of_le z3 hwq.size) (hwq.cell_some q1) hd)).mono ?_; rintro e w4 ⟨rfl, hu4⟩; have Hu4 := Lib.hid (Hu3.out.trans hu4); clear hu4; cases hb3 : (l.take k).any (fun y => x.value == y.value))))
                  · go_roundw
                    case rel => exact ⟨k + 1, by omega, by go_num, Hu4.out, Hgn.out (by rw [Hi3.out, if_neg (by rw [hb3]; decide)])⟩
                    case measure => simp [intOf]; omega
                  · go_ret
                    have hi : itemN l k x = 8 := by rw [Hi3.out, if_pos hb3]
                    exact ⟨ret_int (by rw [Hgg.out (by rw [hi]; decide), hi]), Hu4.out⟩
      · go_wp2_with fail
        go_ret
        exact ⟨ret_int (firstN_idx_none (fun j hj => Hg.out j hj (by omega))).symm, hu⟩
end Go.Proofs.YtbceapeoknngnaaGreatDoor
set_option linter.unusedVariables false
namespace Go.Proofs.YtbceapeoknngnaaGreatDoor
open Go.RowKit
set_option maxRecDepth 100000 in
set_option maxHeartbeats 1600000 in
theorem typed_l (f : Fil) (x : Fld) (bf b o : Nat) (vm ve : Value) (w : World) (hf : FilV All w (.agg #[vm, ve]) f) (h0 : w.cell? ⟨bf, 0, none⟩ = some vm) (h1 : w.cell? ⟨bf, 1, none⟩ = some ve)
    (c2 : w.cell? ⟨b, o + 2, none⟩ = some (.int .i64 x.kind)) (c3 : w.cell? ⟨b, o + 3, none⟩ = some (.string ⟨x.type.toArray⟩)) (c4 : w.cell? ⟨b, o + 4, none⟩ = some (.bool x.many)) (c5 : w.cell? ⟨b, o + 5, none⟩ = some (.int .i64 x.choice)) :
    Calls Tryz.prog 130 #[.pointer (some ⟨bf, 0, none⟩), .pointer (some ⟨b, o, none⟩)] w fun e w' => e = .returned (.int .i64 (typedN f x)) ∧ Up w w' := by
  have Hf := Lib.hid hf; clear hf
  have hk : x.kind < 1 ∨ (1 ≤ x.kind ∧ 10 < x.kind) ∨ x.kind = 10 ∨ x.kind = 5 ∨ (1 ≤ x.kind ∧ x.kind ≤ 10 ∧ x.kind ≠ 10 ∧ x.kind ≠ 5) := by omega
  rcases hk with h | ⟨h, h'⟩ | h | h | ⟨k1, k2, k3, k4⟩
  case inl =>
    go_enter Tryz.func130, Tryz.ntmps130
    go_wp2_with fail
    go_ret
    exact ⟨ret_int (by rw [typedN, if_pos (by omega)]), Up.refl _⟩
  case inr.inl =>
    go_enter Tryz.func130, Tryz.ntmps130
    go_wp2_with fail
    go_ret
    exact ⟨ret_int (by rw [typedN, if_pos (by omega)]), Up.refl _⟩
  case inr.inr.inl =>
    have hfm := fun w1 (hu : Up w w1) => find_msg_l _ f x.type w1 (Hf.out.up hu)
    have Hfm := Lib.hid hfm; clear hfm
    have hty : typedN f x = if idxP (fun m => m.name == x.type) f.msgs < 0 then 6 else if 0 < x.choice ∧ x.many = true then 8 else 0 := by
      unfold typedN
      rw [h]
      simp
    have Hty := Lib.hid hty; clear hty
    generalize idxP (fun m => m.name == x.type) f.msgs = i at *
    rw [h] at c2
    go_enter Tryz.func130, Tryz.ntmps130
    go_wp2_with fail
    go_region_held3 (fun w' => w'.cell? ⟨b, o + 2, none⟩ = some (.int .i64 10) ∧ w'.cell? ⟨b, o + 3, none⟩ = some (.string ⟨x.type.toArray⟩) ∧ w'.cell? ⟨bf, 0, none⟩ = some vm ∧ w'.cell? ⟨bf, 1, none⟩ = some ve) (first | go_keep | exact ⟨c2, c3, h0, h1⟩ | exact ⟨hx2.cell_some c2, hx2.cell_some c3, hx2.cell_some h0, hx2.cell_some h1⟩)
      (first | (go_at_call 81; refine (Hfm.out _ (Up.drew (Up.refl _))).mono ?_; rintro e w2 ⟨rfl, hu2⟩; have hx2 := (Up.drew (Up.refl _)).trans hu2))
    have d2 := hx2.cell_some c2
    have d4 := hx2.cell_some c4
    have d5 := hx2.cell_some c5
    by_cases hi : i < 0
    · go_wp2_with fail
      go_ret
      exact ⟨ret_int (by rw [Hty.out, if_pos hi]), hx2⟩
    · have hi' : 0 ≤ i := by omega
      clear hi
      go_wp2_with fail
      go_quiet (fail)
      have hch : x.choice ≤ 0 ∨ 0 < x.choice := by omega
      rcases hch with hch | hch
      · go_wp2_with fail
        go_ret
        exact ⟨ret_int (by rw [Hty.out, if_neg (Int.not_lt.2 hi'), if_neg (by omega)]), hx2.drewN _⟩
      · cases hm : x.many
        all_goals
          rw [hm] at d4
          go_wp2_with fail
          go_ret
        · exact ⟨ret_int (by rw [Hty.out, if_neg (Int.not_lt.2 hi'), if_neg (by simp [hm])]), hx2.drewN _⟩
        · exact ⟨ret_int (by rw [Hty.out, if_neg (Int.not_lt.2 hi'), if_pos ⟨hch, hm⟩]), hx2.drewN _⟩
  case inr.inr.inr.inl =>
    have hfm := fun w1 (hu : Up w w1) => find_enu_l _ f x.type w1 (Hf.out.up hu)
    have Hfm := Lib.hid hfm; clear hfm
    have hty : typedN f x = if idxP (fun m => m.name == x.type) f.enums < 0 then 6 else if 0 < x.choice ∧ x.many = true then 8 else 0 := by
      unfold typedN
      rw [h]
      simp
    have Hty := Lib.hid hty; clear hty
    generalize idxP (fun m => m.name == x.type) f.enums = i at *
    rw [h] at c2
    go_enter Tryz.func130, Tryz.ntmps130
    go_wp2_with fail
    go_quiet (fail)
    go_wp2_with fail
    go_region_held3 (fun w' => w'.cell? ⟨b, o + 2, none⟩ = some (.int .i64 5) ∧ w'.cell? ⟨b, o + 3, none⟩ = some (.string ⟨x.type.toArray⟩) ∧ w'.cell? ⟨bf, 0, none⟩ = some vm ∧ w'.cell? ⟨bf, 1, none⟩ = some ve) (first | go_keep | exact ⟨c2, c3, h0, h1⟩ | exact ⟨hx2.cell_some c2, hx2.cell_some c3, hx2.cell_some h0, hx2.cell_some h1⟩)
      (first | (go_at_call 82; refine (Hfm.out _ (Up.drew ((Up.refl _).drewN _))).mono ?_; rintro e w2 ⟨rfl, hu2⟩; have hx2 := (Up.drew ((Up.refl _).drewN _)).trans hu2))
    have d2 := hx2.cell_some c2
    have d4 := hx2.cell_some c4
    have d5 := hx2.cell_some c5
    by_cases hi : i < 0
    · go_wp2_with fail
      go_ret
      exact ⟨ret_int (by rw [Hty.out, if_pos hi]), hx2⟩
    · have hi' : 0 ≤ i := by omega
      clear hi
      have hch : x.choice ≤ 0 ∨ 0 < x.choice := by omega
      rcases hch with hch | hch
      · go_wp2_with fail
        go_ret
        exact ⟨ret_int (by rw [Hty.out, if_neg (Int.not_lt.2 hi'), if_neg (by omega)]), hx2⟩
      · cases hm : x.many
        all_goals
          rw [hm] at d4
          go_wp2_with fail
          go_ret
        · exact ⟨ret_int (by rw [Hty.out, if_neg (Int.not_lt.2 hi'), if_neg (by simp [hm])]), hx2⟩
        · exact ⟨ret_int (by rw [Hty.out, if_neg (Int.not_lt.2 hi'), if_pos ⟨hch, hm⟩]), hx2⟩
  case inr.inr.inr.inr =>
    have e10 : (x.kind == 10) = false := by rw [beq_eq_false_iff_ne]; exact k3
    have e5 : (x.kind == 5) = false := by rw [beq_eq_false_iff_ne]; exact k4
    have n10 : (x.kind != 10) = true := by rw [bne_iff_ne]; exact k3
    have n5 : (x.kind != 5) = true := by rw [bne_iff_ne]; exact k4
    have hty : typedN f x = if x.type ≠ [] then 8 else if 0 < x.choice ∧ x.many = true then 8 else 0 := by
      unfold typedN
      rw [if_neg (by omega), if_neg (by omega)]
      by_cases ht : x.type = []
      · simp [ht]
      · rw [if_pos (.inl ⟨k3, k4, ht⟩), if_pos ht]
    have Hty := Lib.hid hty; clear hty
    have K3 := Lib.hid k3; have K4 := Lib.hid k4; clear k3 k4
    go_enter Tryz.func130, Tryz.ntmps130
    go_wp2_with fail
    go_quiet (fail)
    go_wp2_with fail
    go_quiet (fail)
    by_cases ht : x.type = []
    · rw [ht] at c3
      have d4 := c4
      have Ht := Lib.hid ht; clear ht
      have hch : x.choice ≤ 0 ∨ 0 < x.choice := by omega
      rcases hch with hch | hch
      · go_wp2_with fail
        go_ret
        exact ⟨ret_int (by rw [Hty.out, if_neg (not_not_intro Ht.out), if_neg (by omega)]), (Up.refl w).drewN _⟩
      · cases hm : x.many
        all_goals
          rw [hm] at c4 d4
          go_wp2_with fail
          go_ret
        · exact ⟨ret_int (by rw [Hty.out, if_neg (not_not_intro Ht.out), if_neg (by simp [hm])]), (Up.refl w).drewN _⟩
        · exact ⟨ret_int (by rw [Hty.out, if_neg (not_not_intro Ht.out), if_pos ⟨hch, hm⟩]), (Up.refl w).drewN _⟩
    · have hte : x.type.isEmpty = false := by simpa using ht
      have Ht := Lib.hid ht; clear ht
      go_wp2_with fail
      go_ret
      exact ⟨ret_int (by rw [Hty.out, if_pos Ht.out]), (Up.refl w).drewN _⟩
end Go.Proofs.YtbceapeoknngnaaGreatDoor
