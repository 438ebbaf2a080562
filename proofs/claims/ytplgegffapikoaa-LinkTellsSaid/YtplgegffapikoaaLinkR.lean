/-
  pressref2.Link.
-/
import Derived.Test.YtplgegffapikoaaLinkSpec
import Derived.Test.YtplgegffapikoaaWrongR
import Derived.Test.YtplgegffapikoaaFind
import Derived.RegionTactic
import Derived.Deep.DeepCutAuto
set_option linter.unusedVariables false
namespace Go.Proofs.Ytplgegffapikoaa
open Go.RowKit

theorem own_val {w : World} {base : Nat} {e : TypeId} {size : Nat} {v : Value} {n : Nat} {xs : List Value} (h : w.ownsRow base e size v n xs) : ∃ ao cap, v = .slice ao n cap := by
  rcases h.2 with ⟨rfl, rfl⟩ | ⟨g, cap, cur, rfl, _⟩
  · exact ⟨_, _, rfl⟩
  · exact ⟨_, _, rfl⟩

set_option maxRecDepth 100000 in
set_option maxHeartbeats 6400000 in
theorem link_r (v : Value) (f : Fil) (w : World) (hf : FilV All w v f) (hsz : FilSz f) :
    Calls Try.prog 25 #[v] w fun e w' => ∃ v', e = .returned (.tuple #[v', .agg #[.int .i64 (linkN f).2.1, .int .i64 ((linkN f).2.2 : Int)]]) ∧ FilV All w' v' (linkN f).1 ∧ Up w w' := by
  have Hf := Lib.hid hf
  obtain ⟨vm, ve, rfl, hm, he⟩ := hf
  obtain ⟨mo, mc, rfl, hm1, hm2⟩ := hm.val
  obtain ⟨eo, ec, rfl, he1, he2⟩ := he.val
  have Hm := Lib.hid hm; have He := Lib.hid he; clear hm he
  obtain ⟨z1, z2, z3, z4⟩ := hsz
  have Z3 := Lib.hid z3; clear z3 z4
  have hS0 : ∀ S0 : Nat → Prop, S0 = (fun b => b < w.heap.size ∨ w.heap.size + 4 ≤ b) → True := fun _ _ => trivial
  clear hS0
  go_enter Try.func25, Try.ntmps25
  go_wp2_with fail
  go_loopw [17] (fun i wr => ∃ (k : Nat) (v : Value), k ≤ f.msgs.length ∧ i = .int .i64 k ∧ OwnS DMsg (w.heap.size + 4) 70 3 (fun b => b < w.heap.size ∨ w.heap.size + 4 ≤ b) wr v ((f.msgs.take k).map (linkM f)) ∧ Up w wr ∧ wr.heap[w.heap.size + 3]? = some (.cells #[v, .slice eo f.enums.length ec] 45 (0, 0)) ∧
      wr.heap[w.heap.size]? = some (.cells #[.slice mo f.msgs.length mc, .slice eo f.enums.length ec] 45 (0, 0)) ∧ wr.heap[w.heap.size + 1]? = some (.cells #[.slice none 0 0, .slice none 0 0] 45 (0, 0)) ∧ wr.heap[w.heap.size + 2]? = some (.cells #[.int .i64 0, .int .i64 0] 34 (0, 0)))
    (fun i _ => f.msgs.length - (intOf i).toNat)
  case atStart => exact ⟨0, _, by omega, rfl, OwnS.nil _ _ _ _ _ _, ((((Up.refl w).alloc _).alloc _).alloc _).alloc _, blk_new (((w.alloc _).alloc _).alloc _) _ (by simp), blk_old _ (blk_old _ (blk_old _ (blk_new w _ rfl))), blk_old _ (blk_old _ (blk_new (w.alloc _) _ (by simp))), blk_old _ (blk_new ((w.alloc _).alloc _) _ (by simp))⟩
  case round =>
    obtain ⟨k, vo, hk, rfl, how, hu, hbo, hbf, hb2, hb3⟩ := hrel
    have How := Lib.hid how; have Hbo := Lib.hid hbo; have Hbf := Lib.hid hbf; have Hb2 := Lib.hid hb2; have Hb3 := Lib.hid hb3; have Hu := Lib.hid hu
    clear how hbo hbf hb2 hb3
    by_cases hlt : k < f.msgs.length
    · --[
      obtain ⟨b, o, cs, rfl, hb, hl, hcs, hd⟩ := ((Hm.out.lt stable_msg).up stable_msg hu).at hlt
      obtain ⟨vf, vb, hd, hf1, hb1', hn⟩ := hd
      obtain ⟨fo, fc, rfl, _, _⟩ := hf1.val
      obtain ⟨bo, bc, rfl, _, _⟩ := hb1'.val
      subst hd
      have c0 := hcs 0 _ rfl
      have c1 := hcs 1 _ rfl
      have c2 := hcs 2 _ rfl
      simp only [Nat.add_zero] at c0
      have k0 : (0 : Int) ≤ (k : Int) := by omega
      have k1 : (k : Int) < (f.msgs.length : Int) := by omega
      have hsn : (f.msgs.take (k + 1)).map (linkM f) = (f.msgs.take k).map (linkM f) ++ [linkM f f.msgs[k]] := by rw [List.take_succ_eq_append_getElem hlt, List.map_append]; rfl
      have hll : (((f.msgs.take k).map (linkM f)).length + 1) ≤ f.msgs.length := by rw [List.length_map, List.length_take]; omega
      have hz3 := (Z3.out _ (List.getElem_mem hlt)).1
      have Hsn := Lib.hid hsn; have Hf1 := Lib.hid hf1; have Hb1' := Lib.hid hb1'; have Hn := Lib.hid hn
      clear hcs hl hsn hf1 hb1' hu hn
      generalize (f.msgs.take k).map (linkM f) = L at *
      generalize f.msgs[k] = x at *
      obtain ⟨wo, rfl⟩ : ∃ wo : World, wo = wr := ⟨_, rfl⟩
      have hzo : w.heap.size + 3 < wo.heap.size := lt_of_block Hbo.out
      go_wp2_with fail
      have hn0 : ((wo.alloc (.cells #[.string ⟨x.name.toArray⟩, .slice fo x.fields.length fc, .slice bo x.barred.length bc] 70)).alloc (.cells #[.string ⟨x.name.toArray⟩, .slice none 0 0, .slice bo x.barred.length bc] 70)).heap[wo.heap.size + 1]? = some (.cells #[.string ⟨x.name.toArray⟩, .slice none 0 0, .slice bo x.barred.length bc] 70 (0, 0)) := blk_new (wo.alloc _) _ (by simp)
      have hua : Up wo ((wo.alloc (.cells #[.string ⟨x.name.toArray⟩, .slice fo x.fields.length fc, .slice bo x.barred.length bc] 70)).alloc (.cells #[.string ⟨x.name.toArray⟩, .slice none 0 0, .slice bo x.barred.length bc] 70)) := ((Up.refl wo).alloc _).alloc _
      have Hn0 := Lib.hid hn0; have Hua := Lib.hid hua; clear hn0 hua
      go_loopw [29] (fun i wr => ∃ (k2 : Nat) (v2 : Value), k2 ≤ x.fields.length ∧ i = .int .i64 k2 ∧ OwnS DFld (wo.heap.size + 2) 74 6 No wr v2 ((x.fields.take k2).map (linkX f)) ∧ Up wo wr ∧ wr.heap[wo.heap.size + 1]? = some (.cells #[.string ⟨x.name.toArray⟩, v2, .slice bo x.barred.length bc] 70 (0, 0))) (fun i _ => x.fields.length - (intOf i).toNat)
      case atStart => exact ⟨0, _, by omega, rfl, OwnS.nil _ _ _ _ _ _, Hua.out, Hn0.out⟩
      case round =>
        clear c0 c1 c2
        obtain ⟨k2, v2, hk2, rfl, how2, hu2, hbn⟩ := hrel
        have How2 := Lib.hid how2; have Hbn := Lib.hid hbn; have Hu2 := Lib.hid hu2
        clear how2 hbn
        by_cases hlt2 : k2 < x.fields.length
        · --[
          obtain ⟨b2, o2, cs, rfl, hb2, hl, hcs, hd⟩ := (Hf1.out.up stable_fld hu2).at hlt2
          obtain ⟨hd, hx⟩ := hd
          subst hd
          have c0 := hcs 0 _ rfl
          have c1 := hcs 1 _ rfl
          have c2 := hcs 2 _ rfl
          have c3 := hcs 3 _ rfl
          have c4 := hcs 4 _ rfl
          have c5 := hcs 5 _ rfl
          simp only [Nat.add_zero] at c0
          have k20 : (0 : Int) ≤ (k2 : Int) := by omega
          have k21 : (k2 : Int) < (x.fields.length : Int) := by omega
          have hsn2 : (x.fields.take (k2 + 1)).map (linkX f) = (x.fields.take k2).map (linkX f) ++ [linkX f x.fields[k2]] := by rw [List.take_succ_eq_append_getElem hlt2, List.map_append]; rfl
          have hll2 : (((x.fields.take k2).map (linkX f)).length + 1) ≤ x.fields.length := by rw [List.length_map, List.length_take]; omega
          have Hsn2 := Lib.hid hsn2; have Hx := Lib.hid hx
          clear hcs hl hsn2 hx
          generalize (x.fields.take k2).map (linkX f) = L2 at *
          generalize x.fields[k2] = y at *
          clear hlt2 hk2
          obtain ⟨xs, hxs⟩ := How2.out.own
          have Hxs := Lib.hid hxs; clear hxs
          have hlt4 := fun j (hj : v2.ownBlock = some j) => Hxs.out.lt j hj
          have Hlt4 := Lib.hid hlt4; clear hlt4
          obtain ⟨wi, rfl⟩ : ∃ wi : World, wi = wr := ⟨_, rfl⟩
          have hzn : wo.heap.size + 1 < wi.heap.size := lt_of_block Hbn.out
          have f0 : wi.cell? ⟨w.heap.size, 0, none⟩ = some (.slice (some ⟨b, o, none⟩) f.msgs.length mc) := cell_of_row wi _ 0 _ _ _ (hu2.blk Hbf.out)
          have f1 : wi.cell? ⟨w.heap.size, 1, none⟩ = some (.slice eo f.enums.length ec) := cell_of_row wi _ 1 _ _ _ (hu2.blk Hbf.out)
          go_upto_region 10 with (fail)
          have hy := blk_new wi (.cells #[.string ⟨y.name.toArray⟩, .int .i64 y.number, .int .i64 y.kind, .string ⟨y.type.toArray⟩, .bool y.many, .int .i64 y.choice] 74) rfl
          have huy := (Up.refl wi).alloc (.cells #[.string ⟨y.name.toArray⟩, .int .i64 y.number, .int .i64 y.kind, .string ⟨y.type.toArray⟩, .bool y.many, .int .i64 y.choice] 74)
          have Hy := Lib.hid hy; have Huy := Lib.hid huy
          have g0 := huy.cell_some f0
          have g1 := huy.cell_some f1
          generalize hwy : wi.alloc (.cells #[.string ⟨y.name.toArray⟩, .int .i64 y.number, .int .i64 y.kind, .string ⟨y.type.toArray⟩, .bool y.many, .int .i64 y.choice] 74) = wy at *
          have p2 : wy.cell? ⟨wi.heap.size, 2, none⟩ = some (.int .i64 y.kind) := cell_of_row wy _ 2 _ _ _ Hy.out
          have p3 : wy.cell? ⟨wi.heap.size, 3, none⟩ = some (.string ⟨y.type.toArray⟩) := cell_of_row wy _ 3 _ _ _ Hy.out
          have zy : wi.heap.size < wy.heap.size := lt_of_block Hy.out
          clear hwy hy huy c0 c1 c2 c3 c4 c5 f0 f1
          go_cut [49] (fun v wc => ∃ c : Bool, v = .bool c ∧ c = decide (y.kind = 10 ∧ idxP (fun m => m.name == y.type) f.msgs < 0 ∧ 0 ≤ idxP (fun e => e.name == y.type) f.enums) ∧ Up wy wc)
          case first =>
            --[
            have Hfm := Lib.hid (fun wx (hu : Up wy wx) => find_msg_r _ f y.type wx (Hf.out.up (Hu.out.trans (hu2.trans (Huy.out.trans hu)))))
            have Hfe := Lib.hid (fun wx (hu : Up wy wx) => find_enu_r _ f y.type wx (Hf.out.up (Hu.out.trans (hu2.trans (Huy.out.trans hu)))))
            generalize idxP (fun m => m.name == y.type) f.msgs = i1 at *
            generalize idxP (fun m => m.name == y.type) f.enums = i2 at *
            clear hu2
            by_cases hk : y.kind = 10
            · have Hk := Lib.hid hk
              rw [hk] at p2
              clear hk
              by_cases h1 : i1 < 0
              · have h2 : i2 < 0 ∨ 0 ≤ i2 := by omega
                rcases h2 with h2 | h2
                all_goals
                  go_wp2_with (first
                    | (go_at_call 21; go_must ((with_reducible refine (Hfm.out _ (Up.refl _)).mono ?_); rintro e w4 ⟨rfl, hu4⟩; have g0 := hu4.cell_some g0; have g1 := hu4.cell_some g1; have p3 := hu4.cell_some p3))
                    | (go_at_call 23; go_must ((with_reducible refine (Hfe.out _ hu4).mono ?_); rintro e w5 ⟨rfl, hu5⟩)))
                  go_meet
                  refine ⟨_, rfl, ?_, hu4.trans hu5⟩
                  have hk9 := Hk.out
                  first | (refine (decide_eq_true ?_).symm; omega) | (refine (decide_eq_false ?_).symm; omega) | (refine decide_eq_decide.2 ?_; omega)
              · have h1' : 0 ≤ i1 := by omega
                clear h1
                go_wp2_with (first
                  | (go_at_call 21; go_must ((with_reducible refine (Hfm.out _ (Up.refl _)).mono ?_); rintro e w4 ⟨rfl, hu4⟩)))
                go_meet
                refine ⟨_, rfl, ?_, hu4⟩
                refine (decide_eq_false ?_).symm
                omega
            · have hkb : (y.kind == 10) = false := by rw [beq_eq_false_iff_ne]; exact hk
              have Hk := Lib.hid hk; clear hk
              go_wp2_with fail
              go_meet
              refine ⟨_, rfl, ?_, Up.refl _⟩
              exact (decide_eq_false (fun h => Hk.out h.1)).symm
            --]
          case rest =>
            obtain ⟨c, rfl, hc, huc⟩ := hcut
            have Hxc := Lib.hid (Hxs.out.kept (Huy.out.trans huc).to_none (by cases hv : v2.ownBlock <;> simp))
            have Hyc := Lib.hid (huc.blk Hy.out)
            have Hnc := Lib.hid ((Huy.out.trans huc).blk Hbn.out)
            have q0 : wc.cell? ⟨wi.heap.size, 0, none⟩ = some (.string ⟨y.name.toArray⟩) := cell_of_row wc _ 0 _ _ _ Hyc.out
            have q1 : wc.cell? ⟨wi.heap.size, 1, none⟩ = some (.int .i64 y.number) := cell_of_row wc _ 1 _ _ _ Hyc.out
            have q2 : wc.cell? ⟨wi.heap.size, 2, none⟩ = some (.int .i64 y.kind) := cell_of_row wc _ 2 _ _ _ Hyc.out
            have q3 : wc.cell? ⟨wi.heap.size, 3, none⟩ = some (.string ⟨y.type.toArray⟩) := cell_of_row wc _ 3 _ _ _ Hyc.out
            have q4 : wc.cell? ⟨wi.heap.size, 4, none⟩ = some (.bool y.many) := cell_of_row wc _ 4 _ _ _ Hyc.out
            have q5 : wc.cell? ⟨wi.heap.size, 5, none⟩ = some (.int .i64 y.choice) := cell_of_row wc _ 5 _ _ _ Hyc.out
            have zc : wi.heap.size < wc.heap.size := lt_of_block Hyc.out
            have qf : ∀ o, wc.frozen? ⟨wi.heap.size, o, none⟩ = false := fun o => frozen_of_row wc _ o _ _ Hyc.out
            have n0 : wc.cell? ⟨wo.heap.size + 1, 1, none⟩ = some v2 := cell_of_row wc _ 1 _ _ _ Hnc.out
            have nf : ∀ o, wc.frozen? ⟨wo.heap.size + 1, o, none⟩ = false := fun o => frozen_of_row wc _ o _ _ Hnc.out
            have hne : wi.heap.size ≠ wo.heap.size + 1 := by omega
            clear p2 p3 g0 g1
            cases c with
            | false =>
              have Hlx := Lib.hid (show linkX f y = y by unfold linkX; rw [if_neg (of_decide_eq_false hc.symm)])
              have Hxz := Hxc
              clear hc
              go_wp2_with (first
                | (at_builtin; go_must (refine wpList_app1 eFld _ (by rfl) _ _ (by rfl) (wo.heap.size + 2) _ _ _ (by rfl) Hxz.out _ (by rfl) (by first | rfl | simp) (by rfl) (oc (by rfl)) (by omega) (by unfold maxLen; omega) (by first | omega | (simp; omega)) ?_; intro v3 w3 how3 hev3; obtain ⟨a3, c3, rfl⟩ := own_val how3; have hnn := hev3.blk Hnc.out (fun e => by have := (Hlt4.out _ e).1; omega); have n1 : w3.cell? ⟨wo.heap.size + 1, 1, none⟩ = some v2 := cell_of_row w3 _ 1 _ _ _ hnn; have m1 : ∀ o, w3.frozen? ⟨wo.heap.size + 1, o, none⟩ = false := (fun o => frozen_of_row w3 _ o _ _ hnn); have zn3 : wo.heap.size + 1 < w3.heap.size := lt_of_block hnn; have Hnn := Lib.hid hnn; have How3 := Lib.hid how3; have Hev3 := Lib.hid hev3; clear hnn how3 hev3)))
              go_roundw
              case rel =>
                have hpl : ∀ j, (Value.slice a3 (L2.length + 1) c3).ownBlock = some j → wo.heap.size + 2 ≤ j := fun j hj => by
                  rcases Hev3.out.place j hj with h | h
                  · exact (Hlt4.out j h).1
                  · first | omega | (simp at h; omega)
                refine ⟨k2 + 1, .slice a3 (L2.length + 1) c3, by omega, by go_num, ?_, ?_, ?_⟩
                · rw [Hsn2.out, Hlx.out]
                  exact OwnS.setCell stable_fld (OwnS.snoc stable_fld (a := y) (How2.out.up stable_fld (Huy.out.trans huc)) Hxz.out How3.out Hev3.out (by rfl) ⟨rfl, Hx.out⟩) (fun e => absurd (hpl _ e) (show ¬ (wo.heap.size + 2 ≤ wo.heap.size + 1) by omega)) id _
                · exact Up.setCell (Up.evo (Hu2.out.trans (Huy.out.trans huc)) Hev3.out (fun j hj => by have := (Hlt4.out j hj).1; omega)) (show wo.heap.size ≤ wo.heap.size + 1 by omega) _
                · exact heap_setCell_same w3 _ 1 _ _ _ Hnn.out
              case measure => simp [intOf]; omega
            | true =>
              have Hlx := Lib.hid (show linkX f y = { y with kind := 5 } by unfold linkX; rw [if_pos (of_decide_eq_true hc.symm)])
              have Hxz := Lib.hid (ownsRow_setCell_other Hxc.out (a := ⟨wi.heap.size, 2, none⟩) (fun e => by have h2 := (Hlt4.out _ e).2; simp only at h2; omega) (.int .i64 5))
              have Hnz := Lib.hid ((Below.heap_setCell wc ⟨wi.heap.size, 2, none⟩ (.int .i64 5) (wo.heap.size + 1) (by simp; omega)).trans Hnc.out)
              have n0z : (wc.setCell ⟨wi.heap.size, 2, none⟩ (.int .i64 5)).cell? ⟨wo.heap.size + 1, 1, none⟩ = some v2 := cell_of_row _ _ 1 _ _ _ Hnz.out
              clear hc n0
              go_wp2_with (first
                | (at_builtin; go_must (refine wpList_app1 eFld _ (by rfl) _ _ (by rfl) (wo.heap.size + 2) _ _ _ (by rfl) Hxz.out _ (by rfl) (by first | rfl | simp) (by rfl) (oc (by rfl)) (by omega) (by unfold maxLen; omega) (by first | omega | (simp; omega)) ?_; intro v3 w3 how3 hev3; obtain ⟨a3, c3, rfl⟩ := own_val how3; have hnn := hev3.blk Hnz.out (fun e => by have := (Hlt4.out _ e).1; omega); have n1 : w3.cell? ⟨wo.heap.size + 1, 1, none⟩ = some v2 := cell_of_row w3 _ 1 _ _ _ hnn; have m1 : ∀ o, w3.frozen? ⟨wo.heap.size + 1, o, none⟩ = false := (fun o => frozen_of_row w3 _ o _ _ hnn); have zn3 : wo.heap.size + 1 < w3.heap.size := lt_of_block hnn; have Hnn := Lib.hid hnn; have How3 := Lib.hid how3; have Hev3 := Lib.hid hev3; clear hnn how3 hev3)))
              go_roundw
              case rel =>
                have hpl : ∀ j, (Value.slice a3 (L2.length + 1) c3).ownBlock = some j → wo.heap.size + 2 ≤ j := fun j hj => by
                  rcases Hev3.out.place j hj with h | h
                  · exact (Hlt4.out j h).1
                  · first | omega | (simp at h; omega)
                refine ⟨k2 + 1, .slice a3 (L2.length + 1) c3, by omega, by go_num, ?_, ?_, ?_⟩
                · rw [Hsn2.out, Hlx.out]
                  exact OwnS.setCell stable_fld (OwnS.snoc stable_fld (a := { y with kind := 5 }) (OwnS.setCell stable_fld (How2.out.up stable_fld (Huy.out.trans huc)) (fun e => absurd (Hlt4.out _ e).2 (show ¬ (wi.heap.size < wi.heap.size) by omega)) id _) Hxz.out How3.out Hev3.out (by rfl) ⟨rfl, Hx.out.1, (show okI 5 from ⟨by decide, by decide⟩), Hx.out.2.2⟩) (fun e => absurd (hpl _ e) (show ¬ (wo.heap.size + 2 ≤ wo.heap.size + 1) by omega)) id _
                · exact Up.setCell (Up.evo (Up.setCell (Hu2.out.trans (Huy.out.trans huc)) (show wo.heap.size ≤ wi.heap.size by omega) _) Hev3.out (fun j hj => by have := (Hlt4.out j hj).1; omega)) (show wo.heap.size ≤ wo.heap.size + 1 by omega) _
                · exact heap_setCell_same w3 _ 1 _ _ _ Hnn.out
              case measure => simp [intOf]; omega
          --]
        · have hfin : x.fields.take k2 = x.fields := List.take_of_length_le (by omega)
          have how2 := How2.out
          rw [hfin] at how2
          have How2' := Lib.hid how2
          obtain ⟨a2, c2, rfl⟩ := own_val how2.own.choose_spec
          clear how2 How2 hfin
          obtain ⟨wi, rfl⟩ : ∃ wi : World, wi = wr := ⟨_, rfl⟩
          obtain ⟨xs, hxs⟩ := (How.out.up stable_msg hu2).own
          have hlt4 := fun j (hj : vo.ownBlock = some j) => (How.out.own.choose_spec).lt j hj
          have Hlt4 := Lib.hid hlt4; have Hxo := Lib.hid hxs; clear hlt4 hxs
          have n0 : wi.cell? ⟨wo.heap.size + 1, 0, none⟩ = some (.string ⟨x.name.toArray⟩) := cell_of_row wi _ 0 _ _ _ Hbn.out
          have n1 : wi.cell? ⟨wo.heap.size + 1, 1, none⟩ = some (.slice a2 (x.fields.map (linkX f)).length c2) := cell_of_row wi _ 1 _ _ _ Hbn.out
          have n2 : wi.cell? ⟨wo.heap.size + 1, 2, none⟩ = some (.slice bo x.barred.length bc) := cell_of_row wi _ 2 _ _ _ Hbn.out
          have Hbi := Lib.hid (hu2.blk Hbo.out)
          have o0 : wi.cell? ⟨w.heap.size + 3, 0, none⟩ = some vo := cell_of_row wi _ 0 _ _ _ Hbi.out
          have hzi : wo.heap.size + 1 < wi.heap.size := lt_of_block Hbn.out
          go_wp2_with (first
            | (at_builtin; go_must (refine wpList_app1 eMsg _ (by rfl) _ _ (by rfl) (w.heap.size + 4) _ _ _ (by rfl) Hxo.out _ (by rfl) (by first | rfl | simp) (by rfl) (oc (by rfl)) (by omega) (by unfold maxLen; omega) (by first | omega | (simp; omega)) ?_; intro v3 w3 how3 hev3; obtain ⟨a3, c3, rfl⟩ := own_val how3; have hnn := hev3.blk Hbi.out (fun e => by have := (Hlt4.out _ e).1; omega); have m0 : w3.cell? ⟨w.heap.size + 3, 0, none⟩ = some vo := cell_of_row w3 _ 0 _ _ _ hnn; have m1 : ∀ o, w3.frozen? ⟨w.heap.size + 3, o, none⟩ = false := (fun o => frozen_of_row w3 _ o _ _ hnn); have zn3 : w.heap.size + 3 < w3.heap.size := lt_of_block hnn; have Hnn := Lib.hid hnn; have How3 := Lib.hid how3; have Hev3 := Lib.hid hev3; clear hnn how3 hev3)))
          go_roundw
          case rel =>
            have hpl : ∀ j, (Value.slice a3 (L.length + 1) c3).ownBlock = some j → w.heap.size + 4 ≤ j := fun j hj => by
              rcases Hev3.out.place j hj with h | h
              · exact (Hlt4.out j h).1
              · first | omega | (simp at h; omega)
            have hne : ∀ b, b < w.heap.size + 4 → vo.ownBlock ≠ some b := fun b hb e => by have := (Hlt4.out _ e).1; omega
            have h2 : ∀ j, (Value.slice a2 (x.fields.map (linkX f)).length c2).ownBlock = some j → wo.heap.size + 2 ≤ j := fun j hj => ((How2'.out.own.choose_spec).lt j hj).1
            refine ⟨k + 1, .slice a3 (L.length + 1) c3, by omega, by go_num, ?_, ?_, ?_, ?_, ?_, ?_⟩
            · rw [Hsn.out]
              refine OwnS.setCell stable_msg (OwnS.snoc stable_msg (a := linkM f x) (How.out.up stable_msg hu2) Hxo.out How3.out Hev3.out (by rfl) ⟨_, _, rfl, ?_, ?_, Hn.out⟩) (fun e => absurd (hpl _ e) (show ¬ (w.heap.size + 4 ≤ w.heap.size + 3) by omega)) (fun h => by have h : w.heap.size + 3 < w.heap.size ∨ w.heap.size + 4 ≤ w.heap.size + 3 := h; omega) _
              · have hr : RdS DFld 6 (Av2 (fun b => b < w.heap.size ∨ w.heap.size + 4 ≤ b) vo) wi (.slice a2 (x.fields.map (linkX f)).length c2) (x.fields.map (linkX f)) := How2'.out.rd stable_fld (fun _ h => h.elim) (fun j hj => ⟨Or.inr (by have := h2 j hj; omega), fun e => by have := (Hlt4.out _ e).2; have := h2 j hj; omega⟩)
                rw [List.length_map] at hr
                exact hr
              · exact (Hb1'.out.up stable_int hu2).keep stable_int (Keep.weak (fun j hj => ⟨Or.inl hj, hne j (by unfold Lt at hj; omega)⟩))
            · exact Up.setCell (Up.evo (Hu.out.trans hu2) Hev3.out (fun j hj => by have := (Hlt4.out j hj).1; omega)) (show w.heap.size ≤ w.heap.size + 3 by omega) _
            · exact heap_setCell_same w3 _ 0 _ _ _ Hnn.out
            · exact (Below.heap_setCell w3 ⟨w.heap.size + 3, 0, none⟩ _ w.heap.size (by simp)).trans (Hev3.out.blk (hu2.blk Hbf.out) (hne _ (by omega)))
            · exact (Below.heap_setCell w3 ⟨w.heap.size + 3, 0, none⟩ _ (w.heap.size + 1) (by simp)).trans (Hev3.out.blk (hu2.blk Hb2.out) (hne _ (by omega)))
            · exact (Below.heap_setCell w3 ⟨w.heap.size + 3, 0, none⟩ _ (w.heap.size + 2) (by simp)).trans (Hev3.out.blk (hu2.blk Hb3.out) (hne _ (by omega)))
          case measure => simp [intOf]; omega
      --]
    · have hfin : f.msgs.take k = f.msgs := List.take_of_length_le (by omega)
      have how := How.out
      rw [hfin] at how
      have hrd := how.rd stable_msg (S' := fun b => b < w.heap.size ∨ w.heap.size + 4 ≤ b) (fun _ h => h) (fun j hj => Or.inr (how.own.choose_spec.lt j hj).1)
      obtain ⟨ao, co, rfl⟩ := own_val how.own.choose_spec
      have hF : FilV (fun b => b < w.heap.size ∨ w.heap.size + 4 ≤ b) wr (.agg #[.slice ao (f.msgs.map (linkM f)).length co, .slice eo f.enums.length ec]) (linkF f) := ⟨_, _, rfl, hrd, ((He.out.lt stable_enu).up stable_enu hu).keep stable_enu (Keep.weak (fun j hj => Or.inl hj))⟩
      have hw := wrong_r _ (linkF f) wr hF.all (by unfold linkF; simp only [List.length_map]; omega)
      simp only [List.length_map] at hw hF
      have Hw := Lib.hid hw; have HF := Lib.hid hF
      have o0 : wr.cell? ⟨w.heap.size + 3, 0, none⟩ = some (.slice ao (f.msgs.map (linkM f)).length co) := cell_of_row wr _ 0 _ _ _ Hbo.out
      have o1 : wr.cell? ⟨w.heap.size + 3, 1, none⟩ = some (.slice eo f.enums.length ec) := cell_of_row wr _ 1 _ _ _ Hbo.out
      have hzo : w.heap.size + 3 < wr.heap.size := lt_of_block Hbo.out
      clear hw hF how hrd hfin
      have hL : linkN f = if (wrongN (linkF f)).1 ≠ 0 then (⟨[], []⟩, wrongN (linkF f)) else (linkF f, 0, 0) := rfl
      have HL := Lib.hid hL; clear hL
      generalize hpw : wrongN (linkF f) = pw at *
      have Hpw := Lib.hid hpw; clear hpw
      obtain ⟨er, at_⟩ := pw
      simp only at Hw HL
      go_wp2_with fail
      (with_reducible refine Hw.out.mono ?_)
      rintro e w4 ⟨rfl, hu4⟩
      have hbi := hu4.blk Hbo.out; have hbj := hu4.blk Hb2.out; have hbk := hu4.blk Hb3.out
      have o0 : w4.cell? ⟨w.heap.size + 3, 0, none⟩ = some (.slice ao (f.msgs.map (linkM f)).length co) := cell_of_row w4 _ 0 _ _ _ hbi
      have o1 : w4.cell? ⟨w.heap.size + 3, 1, none⟩ = some (.slice eo f.enums.length ec) := cell_of_row w4 _ 1 _ _ _ hbi
      have q0 : w4.cell? ⟨w.heap.size + 1, 0, none⟩ = some (.slice none 0 0) := cell_of_row w4 _ 0 _ _ _ hbj
      have q1 : w4.cell? ⟨w.heap.size + 1, 1, none⟩ = some (.slice none 0 0) := cell_of_row w4 _ 1 _ _ _ hbj
      have qf : ∀ o, w4.frozen? ⟨w.heap.size + 1, o, none⟩ = false := fun o => frozen_of_row w4 _ o _ _ hbj
      have r0 : w4.cell? ⟨w.heap.size + 2, 0, none⟩ = some (.int .i64 0) := cell_of_row w4 _ 0 _ _ _ hbk
      have r1 : w4.cell? ⟨w.heap.size + 2, 1, none⟩ = some (.int .i64 0) := cell_of_row w4 _ 1 _ _ _ hbk
      have rf' : ∀ o, w4.frozen? ⟨w.heap.size + 2, o, none⟩ = false := fun o => frozen_of_row w4 _ o _ _ hbk
      have z9 : w.heap.size + 3 < w4.heap.size := lt_of_block hbi
      have z91 : w.heap.size + 1 < w4.heap.size := by omega
      have z92 : w.heap.size + 2 < w4.heap.size := by omega
      clear hbi hbj hbk
      have Hu4 := Lib.hid hu4; clear hu4 hlt hk
      by_cases her : er = 0
      · have HR := Lib.hid (show linkN f = (linkF f, 0, 0) by rw [HL.out, if_neg (not_not_intro her)])
        subst her
        go_wp2_with fail
        refine bodyPost_ret (v := .tuple #[.agg #[.slice ao f.msgs.length co, .slice eo f.enums.length ec], .agg #[.int .i64 0, .int .i64 0]]) (by simp [results, Try.results25, go_sem, q0, q1, r0, r1, z91, z92]) rfl ?_
        rw [HR.out]
        refine ⟨_, rfl, FilV.all (S := fun b => b < w.heap.size ∨ w.heap.size + 4 ≤ b) ?_, ?_⟩
        · repeat (first | (with_reducible refine FilV.setCell ?_ ?_ _) | (with_reducible refine FilV.alloc ?_ _))
          · exact HF.out.up Hu4.out
          all_goals (rintro (h | h) <;> (simp only at h; omega))
        · repeat (first | (with_reducible refine Up.setCell ?_ ?_ _) | (with_reducible refine Up.alloc ?_ _))
          · exact Hu.out.trans Hu4.out
          all_goals (simp only; omega)
      · have HR := Lib.hid (show linkN f = (⟨[], []⟩, er, at_) by rw [HL.out, if_pos her])
        have hb : (er != 0) = true := by simpa using her
        have Her := Lib.hid her; clear her
        go_wp2_with fail
        go_region
        all_goals
          go_wp2_with fail
          refine bodyPost_ret (v := .tuple #[.agg #[.slice none 0 0, .slice none 0 0], .agg #[.int .i64 er, .int .i64 at_]]) (by simp [results, Try.results25, go_sem, q0, q1, r0, r1, z91, z92]) rfl ?_
          rw [HR.out]
          refine ⟨_, rfl, filV_nil _, ?_⟩
          repeat (first | (with_reducible refine Up.setCell ?_ ?_ _) | (with_reducible refine Up.alloc ?_ _) | (with_reducible refine Up.drew ?_))
          · exact Hu.out.trans Hu4.out
          all_goals (simp only; omega)
end Go.Proofs.Ytplgegffapikoaa
