/-
  link.Link.
-/
import Derived.Test.YtbceapeoknngnaaGreatDoorTx47
import Derived.RegionTactic
import Derived.Deep.RegionWith
set_option linter.unusedVariables false
namespace Go.Proofs.YtbceapeoknngnaaGreatDoor
open Go.RowKit
set_option maxRecDepth 100000
open Lib (hid)
theorem filV_nilS (S : Nat → Prop) (w : World) : FilV S w (.agg #[.slice none 0 0, .slice none 0 0]) ⟨[], []⟩ :=
 ⟨_, _, rfl, ⟨none, 0, rfl, by simp, by unfold maxLen; omega, fun _ => rfl, fun i hi => by simp at hi⟩, ⟨none, 0, rfl, by simp, by unfold maxLen; omega, fun _ => rfl, fun i hi => by simp at hi⟩⟩
set_option maxHeartbeats 6400000 in
theorem link_s (v : Value) (f : Fil) (w : World) (hf : FilV All w v f) (hsz : FilSz f) :
   Calls Tryz.prog 42 #[v] w fun e w' => ∃ v', e = .returned (.tuple #[v', .agg #[.int .i64 (linkN f).2.1, .int .i64 ((linkN f).2.2 : Int)]]) ∧ FilV (fun b => w.heap.size ≤ b) w' v' (linkN f).1 ∧ Up w w' := by
 have Hf := hid hf; obtain ⟨vm, ve, rfl, hm, he⟩ := hf; obtain ⟨mo, mc, rfl, hm1, hm2⟩ := hm.val; obtain ⟨eo, ec, rfl, he1, he2⟩ := he.val; have Hm := hid hm; have He := hid he; clear hm he; obtain ⟨z1, z2, z3, z4⟩ := hsz; have Z3 := hid z3; have Z4 := hid z4; clear z3 z4
 go_enter Tryz.func42, Tryz.ntmps42
 go_wp2_with fail
 go_loopw [16] (fun i wr => ∃ (k : Nat) (v : Value), k ≤ f.msgs.length ∧ i = .int .i64 k ∧ OwnS DMsg (w.heap.size + 4) 38 3 (fun b => w.heap.size + 4 ≤ b) wr v ((f.msgs.take k).map (linkM f)) ∧ Up w wr ∧ wr.heap[w.heap.size + 3]? = some (.cells #[v, .slice none 0 0] 25 (0, 0)) ∧
     wr.heap[w.heap.size]? = some (.cells #[.slice mo f.msgs.length mc, .slice eo f.enums.length ec] 25 (0, 0)) ∧ wr.heap[w.heap.size + 1]? = some (.cells #[.slice none 0 0, .slice none 0 0] 25 (0, 0)) ∧ wr.heap[w.heap.size + 2]? = some (.cells #[.int .i64 0, .int .i64 0] 67 (0, 0)))
   (fun i _ => f.msgs.length - (intOf i).toNat)
 case atStart => exact ⟨0, _, by omega, rfl, OwnS.nil _ _ _ _ _ _, ((((Up.refl w).alloc _).alloc _).alloc _).alloc _, blk_new (((w.alloc _).alloc _).alloc _) _ (by simp), blk_old _ (blk_old _ (blk_old _ (blk_new w _ rfl))), blk_old _ (blk_old _ (blk_new (w.alloc _) _ (by simp))), blk_old _ (blk_new ((w.alloc _).alloc _) _ (by simp))⟩
 case round =>
   obtain ⟨k, vo, hk, rfl, how, hu, hbo, hbf, hb2, hb3⟩ := hrel; have How := hid how; have Hbo := hid hbo; have Hbf := hid hbf; have Hb2 := hid hb2; have Hb3 := hid hb3; have Hu := hid hu; clear how hbo hbf hb2 hb3
   by_cases hlt : k < f.msgs.length
   · obtain ⟨b, o, cs, rfl, hb, hl, hcs, hd⟩ := (Hm.out.up stable_msg hu).at hlt; obtain ⟨vf, vb, hd, hf1, hb1', hn⟩ := hd; obtain ⟨fo, fc, rfl, hfc1, hfc2⟩ := hf1.val; obtain ⟨bo, bc, rfl, hbc1, hbc2⟩ := hb1'.val; subst hd; have c0 := hcs 0 _ rfl; have c1 := hcs 1 _ rfl; have c2 := hcs 2 _ rfl; simp only [Nat.add_zero] at c0; (have k0 : (0 : Int) ≤ (k : Int) := by omega); (have k1 : (k : Int) < (f.msgs.length : Int) := by omega); (have hsn : (f.msgs.take (k + 1)).map (linkM f) = (f.msgs.take k).map (linkM f) ++ [linkM f f.msgs[k]] := by rw [List.take_succ_eq_append_getElem hlt, List.map_append]; rfl); (have hll : (((f.msgs.take k).map (linkM f)).length + 1) ≤ f.msgs.length := by rw [List.length_map, List.length_take]; omega); have hz3 := (Z3.out _ (List.getElem_mem hlt)).1; have hz4 := (Z3.out _ (List.getElem_mem hlt)).2; have Hsn := hid hsn; have Hf1 := hid hf1; have Hb1' := hid hb1'; have Hn := hid hn; clear hcs hl hsn hf1 hb1' hu hn; generalize (f.msgs.take k).map (linkM f) = L at *; generalize f.msgs[k] = x at *; obtain ⟨wo, rfl⟩ : ∃ wo : World, wo = wr := ⟨_, rfl⟩; have hzo : w.heap.size + 3 < wo.heap.size := lt_of_block Hbo.out
     go_upto_region 5 with (fail)
     have Hcf := hid (fun W (hW : Up wo W) => clone_fld _ x.fields W (Hf1.out.up stable_fld hW) hz3); have Hcb := hid (fun W (hW : Up wo W) => clone_num _ x.barred W (Hb1'.out.up stable_int hW) hz4); have Hm0 := hid (show (wo.alloc (.cells #[.string ⟨x.name.toArray⟩, .slice fo x.fields.length fc, .slice bo x.barred.length bc] 38)).heap[wo.heap.size]? = some (.cells #[.string ⟨x.name.toArray⟩, .slice fo x.fields.length fc, .slice bo x.barred.length bc] 38 (0, 0)) from blk_new wo _ rfl); have Hua := hid (show Up wo (wo.alloc (.cells #[.string ⟨x.name.toArray⟩, .slice fo x.fields.length fc, .slice bo x.barred.length bc] 38)) from (Up.refl wo).alloc _); generalize hwa : wo.alloc (.cells #[.string ⟨x.name.toArray⟩, .slice fo x.fields.length fc, .slice bo x.barred.length bc] 38) = wa at *; have m1 : wa.cell? ⟨wo.heap.size, 1, none⟩ = some (.slice fo x.fields.length fc) := cell_of_row wa _ 1 _ _ _ Hm0.out; have m2 : wa.cell? ⟨wo.heap.size, 2, none⟩ = some (.slice bo x.barred.length bc) := cell_of_row wa _ 2 _ _ _ Hm0.out; have mf : ∀ o, wa.frozen? ⟨wo.heap.size, o, none⟩ = false := fun o => frozen_of_row wa _ o _ _ Hm0.out; have mz : wo.heap.size < wa.heap.size := lt_of_block Hm0.out; have mz0 := mz; clear hwa c0 c1 c2
     go_cut [] (fun wc => LkP wo wo.heap.size x.name x.fields x.barred wc)
     case first =>
       --[
       go_region_with (first
         | (go_at_call 79; refine (Hcf.out _ (by first | exact Hua.out.drew | exact (Hua.out.drew).trans hu9)).mono ?_; rintro e w8 ⟨v8, rfl, how8, hu8⟩; obtain ⟨a8, c8, rfl⟩ := own_val how8.own.choose_spec; have Hm0 := hid (hu8.blk Hm0.out); have m1 : w8.cell? ⟨wo.heap.size, 1, none⟩ = some (.slice fo x.fields.length fc) := cell_of_row w8 _ 1 _ _ _ Hm0.out; have m2 : w8.cell? ⟨wo.heap.size, 2, none⟩ = some (.slice bo x.barred.length bc) := cell_of_row w8 _ 2 _ _ _ Hm0.out; have mf : ∀ o, w8.frozen? ⟨wo.heap.size, o, none⟩ = false := (fun o => frozen_of_row w8 _ o _ _ Hm0.out); have mz : wo.heap.size < w8.heap.size := lt_of_block Hm0.out; have How8 := hid how8; have Hu8 := hid hu8; clear how8)
         | (go_at_call 80; refine (Hcb.out _ (by first | exact Hua.out.drew | exact (Hua.out.drew).trans hu8)).mono ?_; rintro e w9 ⟨v9, rfl, how9, hu9⟩; obtain ⟨a9, c9, rfl⟩ := own_val how9.own.choose_spec; have Hm0 := hid (hu9.blk Hm0.out); have m1 : w9.cell? ⟨wo.heap.size, 1, none⟩ = some (.slice fo x.fields.length fc) := cell_of_row w9 _ 1 _ _ _ Hm0.out; have m2 : w9.cell? ⟨wo.heap.size, 2, none⟩ = some (.slice bo x.barred.length bc) := cell_of_row w9 _ 2 _ _ _ Hm0.out; have mf : ∀ o, w9.frozen? ⟨wo.heap.size, o, none⟩ = false := (fun o => frozen_of_row w9 _ o _ _ Hm0.out); have mz : wo.heap.size < w9.heap.size := lt_of_block Hm0.out; have How9 := hid how9; have Hu9 := hid hu9; clear how9))
       all_goals
         go_wp2_with fail
         go_meet
         first
           | (have hu9 : Up w8 w9 := Hu9.out; have h1 := How8.out.up stable_fld hu9; have hz : wo.heap.size + 1 ≤ wa.drew.heap.size := mz0; have hd : ∀ j, (Value.slice a8 x.fields.length c8).ownBlock = some j → (Value.slice a9 x.barred.length c9).ownBlock ≠ some j := (fun j h e => by have := (How8.out.lo j h).2; have := (How9.out.lo j e).1; omega); have hf := lk_fin Hm0.out h1 hz How9.out (Nat.le_trans hz Hu8.out.size) hd ((Hua.out.drew).trans (Hu8.out.trans hu9)) (Nat.le_refl _); first | exact hf.1 | exact hf.2)
           | (have hu8 : Up w9 w8 := Hu8.out; have h2 := How9.out.up stable_int hu8; have hz : wo.heap.size + 1 ≤ wa.drew.heap.size := mz0; have hd : ∀ j, (Value.slice a8 x.fields.length c8).ownBlock = some j → (Value.slice a9 x.barred.length c9).ownBlock ≠ some j := (fun j h e => by have := (How9.out.lo j e).2; have := (How8.out.lo j h).1; omega); have hf := lk_fin Hm0.out How8.out (Nat.le_trans hz Hu9.out.size) h2 hz hd ((Hua.out.drew).trans (Hu9.out.trans hu8)) (Nat.le_refl _); first | exact hf.1 | exact hf.2)
       --]
     case rest =>
       obtain ⟨a1, c1, a2, c2, hmb, hof, hoi, hd, huc⟩ := hcut; have d1 : wc.cell? ⟨wo.heap.size, 1, none⟩ = some (.slice a1 x.fields.length c1) := cell_of_row wc _ 1 _ _ _ hmb; have Hd := hid hd; clear Hcf Hcb m1 m2 mf mz mz0 Hm0 Hua hd; (go_wp2_with fail); clear d1; (go_loopw [31] (fun i wr => ∃ k2 : Nat, k2 ≤ x.fields.length ∧ i = .int .i64 k2 ∧ OwnS DFld (wo.heap.size + 1) 40 6 No wr (.slice a1 x.fields.length c1) (mixL f x.fields k2) ∧ OwnS DInt (wo.heap.size + 1) 3 1 No wr (.slice a2 x.barred.length c2) x.barred ∧ Up wo wr ∧ wr.heap[wo.heap.size]? = some (.cells #[.string ⟨x.name.toArray⟩, .slice a1 x.fields.length c1, .slice a2 x.barred.length c2] 38 (0, 0))) (fun i _ => x.fields.length - (intOf i).toNat)); case atStart => exact ⟨0, by omega, rfl, hof, hoi, huc, hmb⟩
       case round =>
         clear hof hoi huc hmb; obtain ⟨k2, hk2, rfl, hof, hoi, hu2, hmb⟩ := hrel; have Hof := hid hof; have Hoi := hid hoi; have Hu2 := hid hu2; have Hmb := hid hmb; clear hoi hmb
         by_cases hlt2 : k2 < x.fields.length
         · have hml := mixL_len f x.fields hk2; obtain ⟨g, rfl, hg1, hg2, hgf⟩ := own_some hof.own.choose_spec (by rw [hml]; omega); obtain ⟨b2, o2, cs, he, hb2, hl, hcs, hd⟩ := (hof.rd stable_fld (S' := All) (fun _ h => h.elim) (fun _ _ => trivial)).at (i := k2) (by rw [hml]; exact hlt2); simp only [Option.some.injEq, Addr.mk.injEq, and_true] at he; obtain ⟨rfl, rfl⟩ := he; rw [mixL_at f x.fields hlt2] at hd; obtain ⟨hd, hx⟩ := hd; subst hd; have c2' := hcs 2 _ rfl; have c3 := hcs 3 _ rfl; simp only [Nat.zero_add] at c2' c3; (have k20 : (0 : Int) ≤ (k2 : Int) := by omega); (have k21 : (k2 : Int) < (x.fields.length : Int) := by omega); have Hms := hid (fun e => mixL_same f x.fields hlt2 e); have Hmu := hid (mixL_succ f x.fields hlt2); have Hma := hid (mixL_at f x.fields hlt2); have Hml := hid hml; have Hlt2 := hid hlt2; clear hcs hl hof hml hx; generalize x.fields[k2] = y at *; obtain ⟨wi, rfl⟩ : ∃ wi : World, wi = wr := ⟨_, rfl⟩; have d1 : wi.cell? ⟨wo.heap.size, 1, none⟩ = some (.slice (some ⟨g, 0, none⟩) x.fields.length c1) := cell_of_row wi _ 1 _ _ _ Hmb.out; have f0 : wi.cell? ⟨w.heap.size, 0, none⟩ = some (.slice (some ⟨b, o, none⟩) f.msgs.length mc) := cell_of_row wi _ 0 _ _ _ (hu2.blk Hbf.out); have f1 : wi.cell? ⟨w.heap.size, 1, none⟩ = some (.slice eo f.enums.length ec) := cell_of_row wi _ 1 _ _ _ (hu2.blk Hbf.out)
           go_upto_region 10 with (fail)
           go_cut [60] (fun v wc => ∃ c : Bool, v = .bool c ∧ c = decide (y.kind = 10 ∧ idxP (fun m => m.name == y.type) f.msgs < 0 ∧ 0 ≤ idxP (fun e => e.name == y.type) f.enums) ∧ Up wi wc)
           case first =>
             --[
             have Hfm := hid (fun wx (hu : Up wi wx) => find_msg_l _ f y.type wx (Hf.out.up (Hu.out.trans (hu2.trans hu)))); have Hfe := hid (fun wx (hu : Up wi wx) => find_enu_l _ f y.type wx (Hf.out.up (Hu.out.trans (hu2.trans hu)))); generalize idxP (fun m => m.name == y.type) f.msgs = i1 at *; generalize idxP (fun m => m.name == y.type) f.enums = i2 at *; clear hu2
             by_cases hk : y.kind = 10
             · have Hk := hid hk; rw [hk] at c2'; clear hk
               by_cases h1 : i1 < 0
               · (have h2 : i2 < 0 ∨ 0 ≤ i2 := by omega); rcases h2 with h2 | h2
                 all_goals
                   go_region_held3 (fun w' => w'.cell? ⟨g, k2 * 6 + 2, none⟩ = some (.int .i64 10) ∧ w'.cell? ⟨g, k2 * 6 + 3, none⟩ = some (.string ⟨y.type.toArray⟩) ∧ w'.cell? ⟨w.heap.size, 0, none⟩ = some (.slice (some ⟨b, o, none⟩) f.msgs.length mc) ∧ w'.cell? ⟨w.heap.size, 1, none⟩ = some (.slice eo f.enums.length ec)) (first | go_keep | exact ⟨c2', c3, f0, f1⟩ | exact ⟨hu5.cell_some c2', hu5.cell_some c3, hu5.cell_some f0, hu5.cell_some f1⟩ | exact ⟨hu4.cell_some c2', hu4.cell_some c3, hu4.cell_some f0, hu4.cell_some f1⟩)
                     (first | (go_at_call 81; refine (Hfm.out _ (Up.drew (Up.refl _))).mono ?_; rintro e w4 ⟨rfl, hu4'⟩; have hu4 := (Up.drew (Up.refl wi)).trans hu4') | (go_at_call 82; refine (Hfe.out _ hu4).mono ?_; rintro e w5 ⟨rfl, hu5'⟩; have hu5 := hu4.trans hu5'))
                   go_wp2_with fail
                   go_meet
                   refine ⟨_, rfl, ?_, hu5⟩; have hk9 := Hk.out; first | (refine (decide_eq_true ?_).symm; omega) | (refine (decide_eq_false ?_).symm; omega) | (refine decide_eq_decide.2 ?_; omega)
               · (have h1' : 0 ≤ i1 := by omega); clear h1
                 first
                   | (go_region_with (first | (go_at_call 81; refine (Hfm.out _ (Up.drew (Up.refl _))).mono ?_; rintro e w4 ⟨rfl, hu4'⟩; have hu4 := (Up.drew (Up.refl wi)).trans hu4')))
                   | fail
                 all_goals
                   go_wp2_with fail
                   go_meet
                   refine ⟨_, rfl, ?_, hu4⟩; refine (decide_eq_false ?_).symm; omega
             · (have hkb : (y.kind == 10) = false := by rw [beq_eq_false_iff_ne]; exact hk); have Hk := hid hk; clear hk
               go_quiet (fail)
               go_wp2_with fail
               go_meet
               refine ⟨_, rfl, ?_, (Up.refl wi).drewN _⟩; exact (decide_eq_false (fun h => Hk.out h.1)).symm
             --]
           case rest =>
             --[
             obtain ⟨c, rfl, hc, huc⟩ := hcut; have hof := Hof.out.up stable_fld huc; obtain ⟨g', hg', _, zc, gf⟩ := own_some hof.own.choose_spec (by rw [Hml.out]; omega); simp only [Option.some.injEq, Addr.mk.injEq, and_true] at hg'; subst hg'; (have hwg : w.heap.size + 3 < g := by omega); have Hofc := hid hof; have Huc := hid huc; have c9 := huc.cell_some c2'; clear hof c2' c3 d1 f0 f1 huc
             cases c with
             | false =>
               have Hlx := hid (show linkX f y = y by unfold linkX; rw [if_neg (of_decide_eq_false hc.symm)]); clear hc; go_wp2_with fail
               go_roundw
               case rel =>
                 refine ⟨k2 + 1, by omega, by go_num, ?_, Hoi.out.up stable_int Huc.out, hu2.trans Huc.out, Huc.out.blk Hmb.out⟩; rw [Hms.out Hlx.out]; exact Hofc.out
               case measure => simp [intOf]; omega
             | true =>
               have Hlx := hid (show linkX f y = { y with kind := 5 } by unfold linkX; rw [if_pos (of_decide_eq_true hc.symm)]); clear hc; go_wp2_with fail
               go_roundw
               case rel =>
                 refine ⟨k2 + 1, by omega, by go_num, ?_, OwnS.setCell stable_int (Hoi.out.up stable_int Huc.out) (Hd.out g rfl) id _, Up.setCell (hu2.trans Huc.out) (show wo.heap.size ≤ g by omega) _, (Below.heap_setCell wc ⟨g, _, none⟩ _ wo.heap.size (show wo.heap.size ≠ g by omega)).trans (Huc.out.blk Hmb.out)⟩; have h := OwnS.setKind Hofc.out Hml.out.symm (i := k2) (by rw [Hml.out]; exact Hlt2.out); rw [Hma.out] at h; rw [Hmu.out, Hlx.out]; exact h
               case measure => simp [intOf]; omega
             --]
         · --[
           (have hfin : k2 = x.fields.length := by omega); subst hfin; rw [mixL_all] at hof; have How2' := hid hof; clear hof Hof hlt2; obtain ⟨wi, rfl⟩ : ∃ wi : World, wi = wr := ⟨_, rfl⟩; obtain ⟨xs, hxs⟩ := (How.out.up stable_msg hu2).own; have hlt4 := fun j (hj : vo.ownBlock = some j) => (How.out.own.choose_spec).lt j hj; have Hlt4 := hid hlt4; have Hxo := hid hxs; clear hlt4 hxs; have n0 : wi.cell? ⟨wo.heap.size, 0, none⟩ = some (.string ⟨x.name.toArray⟩) := cell_of_row wi _ 0 _ _ _ Hmb.out; have n1 : wi.cell? ⟨wo.heap.size, 1, none⟩ = some (.slice a1 x.fields.length c1) := cell_of_row wi _ 1 _ _ _ Hmb.out; have n2 : wi.cell? ⟨wo.heap.size, 2, none⟩ = some (.slice a2 x.barred.length c2) := cell_of_row wi _ 2 _ _ _ Hmb.out; have Hbi := hid (hu2.blk Hbo.out); have o0 : wi.cell? ⟨w.heap.size + 3, 0, none⟩ = some vo := cell_of_row wi _ 0 _ _ _ Hbi.out; have hzi : wo.heap.size < wi.heap.size := lt_of_block Hmb.out
           go_wp2_with (first
             | (at_builtin; go_must (refine wpList_app1 eMsg _ (by rfl) _ _ (by rfl) (w.heap.size + 4) _ _ _ (by rfl) Hxo.out _ (by rfl) (by first | rfl | simp) (by rfl) (oc (by rfl)) (by omega) (by unfold maxLen; omega) (by first | omega | (simp; omega)) ?_; intro v3 w3 how3 hev3; obtain ⟨a3, c3, rfl⟩ := own_val how3; have hnn := hev3.blk Hbi.out (fun e => by have := (Hlt4.out _ e).1; omega); have m0 : w3.cell? ⟨w.heap.size + 3, 0, none⟩ = some vo := cell_of_row w3 _ 0 _ _ _ hnn; have m1 : ∀ o, w3.frozen? ⟨w.heap.size + 3, o, none⟩ = false := (fun o => frozen_of_row w3 _ o _ _ hnn); have zn3 : w.heap.size + 3 < w3.heap.size := lt_of_block hnn; have Hnn := hid hnn; have How3 := hid how3; have Hev3 := hid hev3; clear hnn how3 hev3)))
           go_roundw
           case rel =>
             have hpl : ∀ j, (Value.slice a3 (L.length + 1) c3).ownBlock = some j → w.heap.size + 4 ≤ j := fun j hj => by
               rcases Hev3.out.place j hj with h | h
               · exact (Hlt4.out j h).1
               · first | omega | (simp at h; omega)
             (have hne : ∀ b, b < w.heap.size + 4 → vo.ownBlock ≠ some b := fun b hb e => by have := (Hlt4.out _ e).1; omega); refine ⟨k + 1, .slice a3 (L.length + 1) c3, by omega, by go_num, ?_, ?_, ?_, ?_, ?_, ?_⟩
             · rw [Hsn.out]; refine OwnS.setCell stable_msg (OwnS.snoc stable_msg (a := linkM f x) (How.out.up stable_msg hu2) Hxo.out How3.out Hev3.out (by rfl) ⟨_, _, rfl, ?_, ?_, Hn.out⟩) (fun e => absurd (hpl _ e) (show ¬ (w.heap.size + 4 ≤ w.heap.size + 3) by omega)) (fun h => by have h : w.heap.size + 4 ≤ w.heap.size + 3 := h; omega) _
               · exact How2'.out.rd stable_fld (fun _ h => h.elim) (fun j hj => ⟨(show w.heap.size + 4 ≤ j by have := (How2'.out.lo j hj).1; omega), fun e => by have := (Hlt4.out _ e).2; have := (How2'.out.lo j hj).1; omega⟩)
               · exact Hoi.out.rd stable_int (fun _ h => h.elim) (fun j hj => ⟨(show w.heap.size + 4 ≤ j by have := (Hoi.out.lo j hj).1; omega), fun e => by have := (Hlt4.out _ e).2; have := (Hoi.out.lo j hj).1; omega⟩)
             · exact Up.setCell (Up.evo (Hu.out.trans hu2) Hev3.out (fun j hj => by have := (Hlt4.out j hj).1; omega)) (show w.heap.size ≤ w.heap.size + 3 by omega) _
             · exact heap_setCell_same w3 _ 0 _ _ _ Hnn.out
             · exact (Below.heap_setCell w3 ⟨w.heap.size + 3, 0, none⟩ _ w.heap.size (by simp)).trans (Hev3.out.blk (hu2.blk Hbf.out) (hne _ (by omega)))
             · exact (Below.heap_setCell w3 ⟨w.heap.size + 3, 0, none⟩ _ (w.heap.size + 1) (by simp)).trans (Hev3.out.blk (hu2.blk Hb2.out) (hne _ (by omega)))
             · exact (Below.heap_setCell w3 ⟨w.heap.size + 3, 0, none⟩ _ (w.heap.size + 2) (by simp)).trans (Hev3.out.blk (hu2.blk Hb3.out) (hne _ (by omega)))
           case measure => simp [intOf]; omega
           --]
   · have hfin : f.msgs.take k = f.msgs := List.take_of_length_le (by omega); have how := How.out; rw [hfin] at how; obtain ⟨ao, co, rfl⟩ := own_val how.own.choose_spec; simp only [List.length_map] at how Hbo; have hpl : ∀ j, (Value.slice ao f.msgs.length co).ownBlock = some j → w.heap.size + 4 ≤ j := fun j hj => (how.lo j hj).1; have hrm := (how.rd stable_msg (S' := fun b => w.heap.size + 4 ≤ b) (fun _ h => h) (fun j hj => hpl j hj)).keep stable_msg (S' := fun b => (w.heap.size + 4 ≤ b) ∧ b < wr.heap.size) (fun k hs hk => ⟨rfl, hs, hk⟩); have Hrm := hid hrm; clear how hpl hrm How hfin hu; obtain ⟨wa, rfl⟩ : ∃ wa : World, wa = wr := ⟨_, rfl⟩; have f1 : wa.cell? ⟨w.heap.size, 1, none⟩ = some (.slice eo f.enums.length ec) := cell_of_row wa _ 1 _ _ _ Hbf.out; have hza : w.heap.size + 3 < wa.heap.size := lt_of_block Hbo.out; (go_wp2_with fail); clear f1
     go_loopw [75] (fun i wr => ∃ (k : Nat) (v : Value), k ≤ f.enums.length ∧ i = .int .i64 k ∧ OwnS DEnu wa.heap.size 140 2 (fun b => wa.heap.size ≤ b) wr v (f.enums.take k) ∧ Keep (fun b => (w.heap.size + 4 ≤ b) ∧ b < wa.heap.size) wa (fun b => (w.heap.size + 4 ≤ b) ∧ b < wa.heap.size) wr ∧ Up w wr ∧ wr.heap[w.heap.size + 3]? = some (.cells #[.slice ao f.msgs.length co, v] 25 (0, 0)) ∧
       wr.heap[w.heap.size]? = some (.cells #[.slice mo f.msgs.length mc, .slice eo f.enums.length ec] 25 (0, 0)) ∧ wr.heap[w.heap.size + 1]? = some (.cells #[.slice none 0 0, .slice none 0 0] 25 (0, 0)) ∧ wr.heap[w.heap.size + 2]? = some (.cells #[.int .i64 0, .int .i64 0] 67 (0, 0)) ∧ wa.heap.size ≤ wr.heap.size)
       (fun i _ => f.enums.length - (intOf i).toNat)
     case atStart => exact ⟨0, _, by omega, rfl, OwnS.nil _ _ _ _ _ _, Keep.weak (fun _ h => h), Hu.out, Hbo.out, Hbf.out, Hb2.out, Hb3.out, Nat.le_refl _⟩
     case round =>
       clear Hbo Hbf Hb2 Hb3 Hu; obtain ⟨k3, vn, hk3, rfl, how, hkp, hu, hbo, hbf, hb2, hb3, hza3⟩ := hrel; have How := hid how; have Hbo := hid hbo; have Hbf := hid hbf; have Hb2 := hid hb2; have Hb3 := hid hb3; have Hu := hid hu; have Hkp := hid hkp; clear how hbo hbf hb2 hb3 hkp
       by_cases hlt3 : k3 < f.enums.length
       · --[
         obtain ⟨b, o, cs, rfl, hb, hl, hcs, hd⟩ := (He.out.up stable_enu hu).at hlt3; obtain ⟨vi, hd, hi1, hn⟩ := hd; obtain ⟨io, ic, rfl, _, _⟩ := hi1.val; subst hd; have c0 := hcs 0 _ rfl; have c1 := hcs 1 _ rfl; simp only [Nat.add_zero] at c0; (have k30 : (0 : Int) ≤ (k3 : Int) := by omega); (have k31 : (k3 : Int) < (f.enums.length : Int) := by omega); (have hsn : f.enums.take (k3 + 1) = f.enums.take k3 ++ [f.enums[k3]] := by rw [List.take_succ_eq_append_getElem hlt3]); (have hll : ((f.enums.take k3).length + 1) ≤ f.enums.length := by rw [List.length_take]; omega); have hz4 := Z4.out _ (List.getElem_mem hlt3); have Hsn := hid hsn; have Hi1 := hid hi1; have Hn := hid hn; clear hcs hl hsn hi1 hu hn; generalize f.enums.take k3 = L at *; generalize f.enums[k3] = x at *; obtain ⟨wo, rfl⟩ : ∃ wo : World, wo = wr := ⟨_, rfl⟩; have hlt4 := fun j (hj : vn.ownBlock = some j) => (How.out.own.choose_spec).lt j hj; have Hlt4 := hid hlt4; clear hlt4
         go_upto_region 18 with (fail)
         have hx0 : (wo.alloc (.cells #[.string ⟨x.name.toArray⟩, .slice io x.items.length ic] 140)).heap[wo.heap.size]? = some (.cells #[.string ⟨x.name.toArray⟩, .slice io x.items.length ic] 140 (0, 0)) := blk_new wo _ rfl; have hua : Up wo (wo.alloc (.cells #[.string ⟨x.name.toArray⟩, .slice io x.items.length ic] 140)) := (Up.refl wo).alloc _; have Hx0 := hid hx0; have Hua := hid hua; clear hx0 hua; generalize hww : wo.alloc (.cells #[.string ⟨x.name.toArray⟩, .slice io x.items.length ic] 140) = ww at *; have e1 : ww.cell? ⟨wo.heap.size, 1, none⟩ = some (.slice io x.items.length ic) := cell_of_row ww _ 1 _ _ _ Hx0.out; have zw : wo.heap.size < ww.heap.size := lt_of_block Hx0.out; clear hww c0 c1; (go_wp2_with fail); refine (clone_itm _ x.items ww (Hi1.out.up stable_itm Hua.out) hz4).mono ?_; rintro e w8 ⟨v8, rfl, how8, hu8⟩; obtain ⟨a8, c8, rfl⟩ := own_val how8.own.choose_spec; have How8 := hid (how8.pure (S' := No) pure_itm (Nat.le_of_lt zw)); have hx8 := hu8.blk Hx0.out; have hu28 := Hua.out.trans hu8; have e0 : w8.cell? ⟨wo.heap.size, 0, none⟩ = some (.string ⟨x.name.toArray⟩) := cell_of_row w8 _ 0 _ _ _ hx8; have e8 : w8.cell? ⟨wo.heap.size, 1, none⟩ = some (.slice io x.items.length ic) := cell_of_row w8 _ 1 _ _ _ hx8; have ef : ∀ o, w8.frozen? ⟨wo.heap.size, o, none⟩ = false := fun o => frozen_of_row w8 _ o _ _ hx8; have z8 : wo.heap.size < w8.heap.size := lt_of_block hx8; have Hx8 := hid hx8; have Hu28 := hid hu28; have Hw8 := hid how8.lo; clear how8 hx8 hu28 hu8 e1
         go_upto_region 19 with (fail)
         (have n8 : (Value.slice a8 x.items.length c8).ownBlock ≠ some wo.heap.size := fun e => by have := (Hw8.out _ e).1; omega); have hne : ∀ b, b < wo.heap.size → (w8.setCell ⟨wo.heap.size, 1, none⟩ (.slice a8 x.items.length c8)).heap[b]? = w8.heap[b]? := fun b hb => Below.heap_setCell w8 ⟨wo.heap.size, 1, none⟩ _ b (show b ≠ wo.heap.size by omega); have Hx9 := hid (heap_setCell_same w8 _ 1 _ _ (.slice a8 x.items.length c8) Hx8.out); have Hu9 := hid (Up.setCell Hu28.out (p := ⟨wo.heap.size, 1, none⟩) (Nat.le_refl _) (.slice a8 x.items.length c8)); have How9 := hid (OwnS.setCell stable_itm How8.out (p := ⟨wo.heap.size, 1, none⟩) n8 id (.slice a8 x.items.length c8)); generalize hw9 : w8.setCell ⟨wo.heap.size, 1, none⟩ (.slice a8 x.items.length c8) = w9 at *; clear hw9 hne n8 e0 e8 ef z8 Hx8 Hu28 How8; have e0 : w9.cell? ⟨wo.heap.size, 0, none⟩ = some (.string ⟨x.name.toArray⟩) := cell_of_row w9 _ 0 _ _ _ Hx9.out; have e1 : w9.cell? ⟨wo.heap.size, 1, none⟩ = some (.slice a8 x.items.length c8) := cell_of_row w9 _ 1 _ _ _ Hx9.out; have Hbi := hid (Hu9.out.blk Hbo.out); have o1 : w9.cell? ⟨w.heap.size + 3, 1, none⟩ = some vn := cell_of_row w9 _ 1 _ _ _ Hbi.out; have z9 : wo.heap.size < w9.heap.size := lt_of_block Hx9.out; obtain ⟨xs, hxs⟩ := (How.out.up stable_enu Hu9.out).own; have Hxo := hid hxs; clear hxs
         go_wp2_with (first
           | (at_builtin; go_must (refine wpList_app1 eEnu _ (by rfl) _ _ (by rfl) wa.heap.size _ _ _ (by rfl) Hxo.out _ (by rfl) (by first | rfl | simp) (by rfl) (oc (by rfl)) (by omega) (by unfold maxLen; omega) (by first | omega | (simp; omega)) ?_; intro v3 w3 how3 hev3; obtain ⟨a3, c3, rfl⟩ := own_val how3; have hnn := hev3.blk Hbi.out (fun e => by have := (Hlt4.out _ e).1; omega); have m0 : w3.cell? ⟨w.heap.size + 3, 1, none⟩ = some vn := cell_of_row w3 _ 1 _ _ _ hnn; have m1 : ∀ o, w3.frozen? ⟨w.heap.size + 3, o, none⟩ = false := (fun o => frozen_of_row w3 _ o _ _ hnn); have zn3 : w.heap.size + 3 < w3.heap.size := lt_of_block hnn; have Hnn := hid hnn; have How3 := hid how3; have Hev3 := hid hev3; clear hnn how3 hev3)))
         go_roundw
         case rel =>
           have hpl : ∀ j, (Value.slice a3 (L.length + 1) c3).ownBlock = some j → wa.heap.size ≤ j := fun j hj => by
             rcases Hev3.out.place j hj with h | h
             · exact (Hlt4.out j h).1
             · omega
           (have hne : ∀ b, b < wa.heap.size → vn.ownBlock ≠ some b := fun b hb e => by have := (Hlt4.out _ e).1; omega); refine ⟨k3 + 1, .slice a3 (L.length + 1) c3, by omega, by go_num, ?_, ?_, ?_, ?_, ?_, ?_, ?_, ?_⟩
           · rw [Hsn.out]; refine OwnS.setCell stable_enu (OwnS.snoc stable_enu (a := x) (How.out.up stable_enu Hu9.out) Hxo.out How3.out Hev3.out (by rfl) ⟨_, rfl, ?_, Hn.out⟩) (fun e => absurd (hpl _ e) (show ¬ (wa.heap.size ≤ w.heap.size + 3) by omega)) (show ¬ (wa.heap.size ≤ w.heap.size + 3) by omega) _; exact How9.out.rd stable_itm (fun _ h => h.elim) (fun j hj => ⟨show wa.heap.size ≤ j by have := (How9.out.lo j hj).1; omega, fun e => by have := (Hlt4.out _ e).2; have := (How9.out.lo j hj).1; omega⟩)
           · refine Keep.trans (Keep.trans (Keep.trans Hkp.out (Keep.upS Hu9.out)) (S' := fun b => (w.heap.size + 4 ≤ b) ∧ b < wa.heap.size) (w' := w9) (w2 := w3) (fun j hs hj => ⟨Hev3.out.grown.block j hj (fun e => hne j hs.2 e.symm), hs⟩)) (Keep.setCell (fun h => by have h : (w.heap.size + 4 ≤ w.heap.size + 3) ∧ w.heap.size + 3 < wa.heap.size := h; omega) _)
           · exact Up.setCell (Up.evo (Hu.out.trans Hu9.out) Hev3.out (fun j hj => by have := (Hlt4.out j hj).1; omega)) (show w.heap.size ≤ w.heap.size + 3 by omega) _
           · exact heap_setCell_same w3 _ 1 _ _ _ Hnn.out
           · exact (Below.heap_setCell w3 ⟨w.heap.size + 3, 1, none⟩ _ w.heap.size (by simp)).trans (Hev3.out.blk (Hu9.out.blk Hbf.out) (hne _ (by omega)))
           · exact (Below.heap_setCell w3 ⟨w.heap.size + 3, 1, none⟩ _ (w.heap.size + 1) (by simp)).trans (Hev3.out.blk (Hu9.out.blk Hb2.out) (hne _ (by omega)))
           · exact (Below.heap_setCell w3 ⟨w.heap.size + 3, 1, none⟩ _ (w.heap.size + 2) (by simp)).trans (Hev3.out.blk (Hu9.out.blk Hb3.out) (hne _ (by omega)))
           · have h1 := Hev3.out.grown.size; (have h2 : ∀ (a : Addr) (u : Value), (w3.setCell a u).heap.size = w3.heap.size := fun a u => by simp); have h3 := Hu9.out.size; rw [h2]; omega
         case measure => simp [intOf]; omega
         --]
       · --[
         have hfin : f.enums.take k3 = f.enums := List.take_of_length_le (by omega); have how := How.out; rw [hfin] at how; obtain ⟨eo2, eo2c, rfl⟩ := own_val how.own.choose_spec; have hpl : ∀ j, (Value.slice eo2 f.enums.length eo2c).ownBlock = some j → wa.heap.size ≤ j := fun j hj => (how.lo j hj).1; have hre := how.rd stable_enu (S' := fun b => w.heap.size + 4 ≤ b) (fun j (h : wa.heap.size ≤ j) => (show w.heap.size + 4 ≤ j by omega)) (fun j hj => (show w.heap.size + 4 ≤ j by have := hpl j hj; omega)); have hF : FilV (fun b => w.heap.size + 4 ≤ b) wr (.agg #[.slice ao f.msgs.length co, .slice eo2 f.enums.length eo2c]) (linkF f) := ⟨_, _, rfl, (Hrm.out.keep stable_msg Hkp.out).keep stable_msg (Keep.weak (fun j hj => hj.1)), hre⟩; have Hw := hid (wrong_l _ (linkF f) wr hF.all); have HF := hid hF; have o0 : wr.cell? ⟨w.heap.size + 3, 0, none⟩ = some (.slice ao f.msgs.length co) := cell_of_row wr _ 0 _ _ _ Hbo.out; have o1 : wr.cell? ⟨w.heap.size + 3, 1, none⟩ = some (.slice eo2 f.enums.length eo2c) := cell_of_row wr _ 1 _ _ _ Hbo.out; have hzo : w.heap.size + 3 < wr.heap.size := lt_of_block Hbo.out; clear hF how hre hfin hpl; have hL : linkN f = if (wrongN (linkF f)).1 ≠ 0 then (⟨[], []⟩, wrongN (linkF f)) else (linkF f, 0, 0) := rfl; have HL := hid hL; clear hL; generalize hpw : wrongN (linkF f) = pw at *; have Hpw := hid hpw; clear hpw; obtain ⟨er, at_⟩ := pw; simp only at Hw HL; go_wp2_with fail
         (with_reducible refine Hw.out.mono ?_)
         rintro e w4 ⟨rfl, hu4⟩; have hbi := hu4.blk Hbo.out; have hbj := hu4.blk Hb2.out; have hbk := hu4.blk Hb3.out; have o0 : w4.cell? ⟨w.heap.size + 3, 0, none⟩ = some (.slice ao f.msgs.length co) := cell_of_row w4 _ 0 _ _ _ hbi; have o1 : w4.cell? ⟨w.heap.size + 3, 1, none⟩ = some (.slice eo2 f.enums.length eo2c) := cell_of_row w4 _ 1 _ _ _ hbi; have q0 : w4.cell? ⟨w.heap.size + 1, 0, none⟩ = some (.slice none 0 0) := cell_of_row w4 _ 0 _ _ _ hbj; have q1 : w4.cell? ⟨w.heap.size + 1, 1, none⟩ = some (.slice none 0 0) := cell_of_row w4 _ 1 _ _ _ hbj; have qf : ∀ o, w4.frozen? ⟨w.heap.size + 1, o, none⟩ = false := fun o => frozen_of_row w4 _ o _ _ hbj; have r0 : w4.cell? ⟨w.heap.size + 2, 0, none⟩ = some (.int .i64 0) := cell_of_row w4 _ 0 _ _ _ hbk; have r1 : w4.cell? ⟨w.heap.size + 2, 1, none⟩ = some (.int .i64 0) := cell_of_row w4 _ 1 _ _ _ hbk; have rf' : ∀ o, w4.frozen? ⟨w.heap.size + 2, o, none⟩ = false := fun o => frozen_of_row w4 _ o _ _ hbk; have z9 : w.heap.size + 3 < w4.heap.size := lt_of_block hbi; (have z91 : w.heap.size + 1 < w4.heap.size := by omega); (have z92 : w.heap.size + 2 < w4.heap.size := by omega); clear hbi hbj hbk; have Hu4 := hid hu4; clear hu4 hlt hk hlt3 hk3 hu
         by_cases her : er = 0
         · have HR := hid (show linkN f = (linkF f, 0, 0) by rw [HL.out, if_neg (not_not_intro her)]); subst her; (go_wp2_with fail); refine bodyPost_ret (v := .tuple #[.agg #[.slice ao f.msgs.length co, .slice eo2 f.enums.length eo2c], .agg #[.int .i64 0, .int .i64 0]]) (by simp [results, Tryz.results42, go_sem, q0, q1, r0, r1, z91, z92]) rfl ?_; rw [HR.out]; refine ⟨_, rfl, FilV.keep (S := fun b => w.heap.size + 4 ≤ b) ?_ (Keep.weak (fun b (h : w.heap.size + 4 ≤ b) => (show w.heap.size ≤ b by omega))), ?_⟩
           · repeat (first | (with_reducible refine FilV.setCell ?_ ?_ _) | (with_reducible refine FilV.alloc ?_ _))
             · exact HF.out.up Hu4.out
             all_goals (intro h; simp only at h; omega)
           · repeat (first | (with_reducible refine Up.setCell ?_ ?_ _) | (with_reducible refine Up.alloc ?_ _))
             · exact Hu.out.trans Hu4.out
             all_goals (simp only; omega)
         · have HR := hid (show linkN f = (⟨[], []⟩, er, at_) by rw [HL.out, if_pos her]); (have hb : (er != 0) = true := by simpa using her); have Her := hid her; clear her; go_wp2_with fail
           go_region
           all_goals
             (go_wp2_with fail); refine bodyPost_ret (v := .tuple #[.agg #[.slice none 0 0, .slice none 0 0], .agg #[.int .i64 er, .int .i64 at_]]) (by simp [results, Tryz.results42, go_sem, q0, q1, r0, r1, z91, z92]) rfl ?_; rw [HR.out]; refine ⟨_, rfl, filV_nilS _ _, ?_⟩; repeat (first | (with_reducible refine Up.setCell ?_ ?_ _) | (with_reducible refine Up.alloc ?_ _) | (with_reducible refine Up.drew ?_))
             · exact Hu.out.trans Hu4.out
             all_goals (simp only; omega)
         --]
end Go.Proofs.YtbceapeoknngnaaGreatDoor
