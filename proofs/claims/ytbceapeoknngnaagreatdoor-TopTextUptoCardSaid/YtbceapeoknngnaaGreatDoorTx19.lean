/-
  link.Wrong.
-/
import Derived.Test.YtbceapeoknngnaaGreatDoorTx18
set_option linter.unusedVariables false
namespace Go.Proofs.YtbceapeoknngnaaGreatDoor
open Go.RowKit
set_option maxRecDepth 100000
open Lib (hid)
set_option maxHeartbeats 6400000 in
theorem wrong_l (v : Value) (f : Fil) (w : World) (hf : FilV All w v f) :
   Calls Tryz.prog 38 #[v] w fun e w' => e = .returned (.agg #[.int .i64 (wrongN f).1, .int .i64 ((wrongN f).2 : Int)]) ∧ Up w w' := by
 have Hf := hid hf; obtain ⟨vm, ve, rfl, hm, he⟩ := hf; obtain ⟨mo, mc, rfl, hm1, hm2⟩ := hm.val; obtain ⟨eo, ec, rfl, he1, he2⟩ := he.val; have Hm := hid hm; have He := hid he; clear hm he
 by_cases hlen : 10 < f.msgs.length + f.enums.length
 · rw [wrong_many hlen]; (have h2 : 10 < (f.msgs.length : Int) ∨ ((f.msgs.length : Int) ≤ 10 ∧ 10 - (f.msgs.length : Int) < (f.enums.length : Int)) := by omega); clear hlen; rcases h2 with h2 | ⟨h2, h3⟩
   all_goals
     go_enter Tryz.func38, Tryz.ntmps38
     (go_wp2_with fail); exact bodyPost_ret (v := .agg #[.int .i64 5, .int .i64 0]) (by simp [results, Tryz.results38, go_sem]) rfl ⟨rfl, ((Up.refl w).alloc _).alloc _⟩
 · (have i1 : (f.msgs.length : Int) + f.enums.length ≤ 10 := by omega); (have i2 : (f.msgs.length : Int) ≤ 10 := by omega); (have i3 : (f.enums.length : Int) ≤ 10 - (f.msgs.length : Int) := by omega); have Hlen := hid hlen; clear hlen
   go_enter Tryz.func38, Tryz.ntmps38
   (go_wp2_with fail); (go_loopw [3, 32] (fun h i wr => ∃ k : Nat, k ≤ f.msgs.length ∧ i = .int .i64 k ∧ OwnS DStr (w.heap.size + 2) 9 1 All wr h ((f.msgs.take k).map (·.name)) ∧ Up w wr ∧ wr.heap[w.heap.size]? = some (.cells #[.slice mo f.msgs.length mc, .slice eo f.enums.length ec] 25 (0, 0)) ∧ wr.heap[w.heap.size + 1]? = some (.cells #[.int .i64 0, .int .i64 0] 67 (0, 0))) (fun _ i _ => f.msgs.length - (intOf i).toNat)); case atStart => exact ⟨0, by omega, rfl, OwnS.nil _ _ _ _ _ _, ((Up.refl w).alloc _).alloc _, blk_old _ (blk_new w _ rfl), blk_new (w.alloc _) _ (by simp)⟩
   case round =>
     obtain ⟨k, hk, rfl, how, hu, hb0, hb1⟩ := hrel
     by_cases hlt : k < f.msgs.length
     · obtain ⟨b, o, cs, rfl, hb, hl, hcs, hd⟩ := (Hm.out.up stable_msg hu).at hlt; obtain ⟨vf, vb, hd, hf1, hb1', hn⟩ := hd; obtain ⟨fo, fc, rfl, _, _⟩ := hf1.val; obtain ⟨bo, bc, rfl, _, _⟩ := hb1'.val; subst hd; have c0 := hcs 0 _ rfl; have c1 := hcs 1 _ rfl; have c2 := hcs 2 _ rfl; simp only [Nat.add_zero] at c0; (have k0 : (0 : Int) ≤ (k : Int) := by omega); (have k1 : (k : Int) < (f.msgs.length : Int) := by omega); (have hsn : (f.msgs.take (k + 1)).map (·.name) = (f.msgs.take k).map (·.name) ++ [f.msgs[k].name] := by rw [List.take_succ_eq_append_getElem hlt, List.map_append]; rfl); have Hsn := hid hsn; (have hll : ((f.msgs.take k).map (·.name)).length ≤ 10 := by rw [List.length_map, List.length_take]; omega); have How := hid how; have Hb0 := hid hb0; have Hb1 := hid hb1; have Hu := hid hu; have Hn := hid hn; clear hcs hl hsn how hb0 hb1 hf1 hb1' hu hn; generalize (f.msgs.take k).map (·.name) = L at *; generalize f.msgs[k] = x at *; obtain ⟨xs, hxs⟩ := How.out.own; have Hxs := hid hxs; clear hxs; have hwz : w.heap.size + 2 ≤ wr.heap.size := lt_of_block Hb1.out
       go_wp2_with (first
         | (at_builtin; go_must (refine wpList_app1 eStr _ (by rfl) _ _ (by rfl) (w.heap.size + 2) _ _ _ (by rfl) (Hxs.out.alloc _) _ (by rfl) (by simp) (by rfl) (oc (by rfl)) (by omega) (by unfold maxLen; omega) (by simp; omega) ?_; intro v1 w1 how1 hev1)))
       go_roundw
       case rel =>
         have hev := hev1.of_alloc; have hlt4 := fun j (hj : u3.ownBlock = some j) => Hxs.out.lt j hj; exact ⟨k + 1, by omega, by go_num, by rw [Hsn.out]; exact OwnS.snoc stable_str How.out Hxs.out how1 hev (by rfl) ⟨rfl, Hn.out⟩, Hu.out.evo hev (fun j hj => by have := (hlt4 j hj).1; omega), hev.blk Hb0.out (fun e => by have := (hlt4 _ e).1; omega), hev.blk Hb1.out (fun e => by have := (hlt4 _ e).1; omega)⟩
       case measure => simp [intOf]; omega
     · have hfin : f.msgs.take k = f.msgs := List.take_of_length_le (by omega); rw [hfin] at how; clear hfin; obtain ⟨wa, rfl⟩ : ∃ wa : World, wa = wr := ⟨_, rfl⟩; have e0 : wa.cell? ⟨w.heap.size, 1, none⟩ = some (.slice eo f.enums.length ec) := cell_of_row wa _ 1 _ _ _ hb0; (go_wp2_with fail); clear e0; (go_loopw [3, 45] (fun h i wr => ∃ k : Nat, k ≤ f.enums.length ∧ i = .int .i64 k ∧ OwnS DStr (w.heap.size + 2) 9 1 All wr h (f.msgs.map (·.name) ++ (f.enums.take k).map (·.name)) ∧ Up w wr ∧ wr.heap[w.heap.size]? = some (.cells #[.slice mo f.msgs.length mc, .slice eo f.enums.length ec] 25 (0, 0)) ∧ wr.heap[w.heap.size + 1]? = some (.cells #[.int .i64 0, .int .i64 0] 67 (0, 0))) (fun _ i _ => f.enums.length - (intOf i).toNat)); case atStart => exact ⟨0, by omega, rfl, by simpa using how, hu, hb0, hb1⟩
       case round =>
         clear how hu hb0 hb1 hlt hk; obtain ⟨k, hk, rfl, how, hu, hb0, hb1⟩ := hrel
         by_cases hlt : k < f.enums.length
         · obtain ⟨b, o, cs, rfl, hb, hl, hcs, hd⟩ := (He.out.up stable_enu hu).at hlt; obtain ⟨vf, hd, hf1, hn⟩ := hd; obtain ⟨fo, fc, rfl, _, _⟩ := hf1.val; subst hd; have c0 := hcs 0 _ rfl; have c1 := hcs 1 _ rfl; simp only [Nat.add_zero] at c0; (have k0 : (0 : Int) ≤ (k : Int) := by omega); (have k1 : (k : Int) < (f.enums.length : Int) := by omega); (have hsn : f.msgs.map (·.name) ++ (f.enums.take (k + 1)).map (·.name) = (f.msgs.map (·.name) ++ (f.enums.take k).map (·.name)) ++ [f.enums[k].name] := by rw [List.take_succ_eq_append_getElem hlt, List.map_append, List.append_assoc]; rfl); have Hsn := hid hsn; (have hll : (f.msgs.map (·.name) ++ (f.enums.take k).map (·.name)).length ≤ 10 := by rw [List.length_append, List.length_map, List.length_map, List.length_take]; omega); have How := hid how; have Hb0 := hid hb0; have Hb1 := hid hb1; have Hu := hid hu; have Hn := hid hn; clear hcs hl hsn how hb0 hb1 hf1 hu hn; generalize f.msgs.map (·.name) ++ (f.enums.take k).map (·.name) = L at *; generalize f.enums[k] = x at *; obtain ⟨xs, hxs⟩ := How.out.own; have Hxs := hid hxs; clear hxs; have hwz : w.heap.size + 2 ≤ wr.heap.size := lt_of_block Hb1.out
           go_wp2_with (first
             | (at_builtin; go_must (refine wpList_app1 eStr _ (by rfl) _ _ (by rfl) (w.heap.size + 2) _ _ _ (by rfl) (Hxs.out.alloc _) _ (by rfl) (by simp) (by rfl) (oc (by rfl)) (by omega) (by unfold maxLen; omega) (by simp; omega) ?_; intro v1 w1 how1 hev1)))
           go_roundw
           case rel =>
             have hev := hev1.of_alloc; have hlt4 := fun j (hj : u3.ownBlock = some j) => Hxs.out.lt j hj; exact ⟨k + 1, by omega, by go_num, by rw [Hsn.out]; exact OwnS.snoc stable_str How.out Hxs.out how1 hev (by rfl) ⟨rfl, Hn.out⟩, Hu.out.evo hev (fun j hj => by have := (hlt4 j hj).1; omega), hev.blk Hb0.out (fun e => by have := (hlt4 _ e).1; omega), hev.blk Hb1.out (fun e => by have := (hlt4 _ e).1; omega)⟩
           case measure => simp [intOf]; omega
         · have hfin : f.enums.take k = f.enums := List.take_of_length_le (by omega); rw [hfin, show f.msgs.map (·.name) ++ f.enums.map (·.name) = hadN f from rfl] at how; have hrd := how.rd stable_str (S' := All) (fun _ h => h) (fun _ _ => trivial); (have hll : (hadN f).length = f.msgs.length + f.enums.length := by unfold hadN; rw [List.length_append, List.length_map, List.length_map]); obtain ⟨ho, hc, rfl, hc1, hc2⟩ := hrd.val; clear hfin how; obtain ⟨wb, rfl⟩ : ∃ wb : World, wb = wr := ⟨_, rfl⟩; have Hrd := hid hrd; have Hb0 := hid hb0; have Hb1 := hid hb1; have Hu := hid hu; clear hrd hb0 hb1 hu; (have l10 : ((hadN f).length : Int) ≤ 10 := by omega); have Hll := hid hll; clear hll; (go_wp2_with fail); generalize hH : hadN f = L at *; have HH := hid hH; clear hH; (go_loopw [57] (fun i wr => ∃ k : Nat, k ≤ L.length ∧ i = .int .i64 k ∧ Up wb wr ∧ ∀ j, (hj : j < L.length) → j < k → nameN L j L[j] = 0) (fun i _ => L.length - (intOf i).toNat)); case atStart => exact ⟨0, by omega, rfl, Up.refl _, fun j _ h => absurd h (by omega)⟩
           case round =>
             clear hlt hk; obtain ⟨k, hk, rfl, hu, hg⟩ := hrel; have Hg := hid hg; have Huq := hid hu; clear hg
             by_cases hlt : k < L.length
             · obtain ⟨b, o, cs, rfl, hb, hl, hcs, hd⟩ := (Hrd.out.up stable_str hu).at hlt; obtain ⟨hd, hn⟩ := hd; subst hd; have c0 := hcs 0 _ rfl; simp only [Nat.add_zero, Nat.mul_one] at c0; (have k0 : (0 : Int) ≤ (k : Int) := by omega); (have k1 : (k : Int) < (L.length : Int) := by omega); (have k2 : (k : Int) ≤ (L.length : Int) := by omega); (have k3 : (k : Int) ≤ (hc : Int) := by omega); have Hgn := hid (fun e => zero_more (q := nameN L) hlt Hg.out e); have Hgw := hid (fun e => by have h := wrong_name (f := f) Hlen.out (k := k) (by rw [HH.out]; exact hlt) (fun j hj hjk => by simp only [HH.out] at hj ⊢; exact Hg.out j hj hjk) (by simp only [HH.out]; exact e); exact h); have hnm := name_cases L k L[k]; clear hcs hl; generalize L[k] = x at *; have hfr := free_l x wr
               cases hfx : freeN x with
               | false =>
                 rw [hfx] at hfr; have Hfr := hid hfr; have Hi := hid (show nameN L k x = 7 by rw [hnm, hfx]; rfl); clear hnm hfr hfx hu
                 go_wp2_with (first
                   | (go_at_call 66; go_must ((with_reducible refine Hfr.out.mono ?_); rintro e w4 ⟨rfl, hu4⟩; have hbx := (Huq.out.trans hu4).blk Hb1.out; have q0 : w4.cell? ⟨w.heap.size + 1, 0, none⟩ = some (.int .i64 0) := cell_of_row w4 _ 0 _ _ _ hbx; have q1 : w4.cell? ⟨w.heap.size + 1, 1, none⟩ = some (.int .i64 0) := cell_of_row w4 _ 1 _ _ _ hbx; have g0 : ∀ o, w4.frozen? ⟨w.heap.size + 1, o, none⟩ = false := (fun o => frozen_of_row w4 _ o _ _ hbx); have hz : w.heap.size + 1 < w4.heap.size := lt_of_block hbx; clear hbx)))
                 refine bodyPost_ret (v := .agg #[.int .i64 7, .int .i64 k]) (by simp [results, Tryz.results38, go_sem, q0, q1]) rfl ?_; rw [Hgw.out Hi.out]; refine ⟨by first | rfl | simp, ?_⟩; repeat (with_reducible refine Up.setCell ?_ ?_ _)
                 · exact Hu.out.trans (Huq.out.trans hu4)
                 all_goals simp
               | true =>
                 rw [hfx] at hfr; have hct := fun w4 (hu4 : Up wr w4) => contains_str _ (L.take k) x w4 ((Hrd.out.up stable_str (hu.trans hu4)).take k hk)
                 cases hcx : (L.take k).any (fun y => x == y) with
                 | true =>
                   simp only [hcx] at hct; have Hi := hid (show nameN L k x = 7 by rw [hnm, hfx, hcx]; rfl); have Hfr := hid hfr; have Hct := hid hct; clear hnm hfr hfx hu hct hcx
                   go_wp2_with (first
                     | (go_at_call 66; go_must ((with_reducible refine Hfr.out.mono ?_); rintro e w4 ⟨rfl, hu4⟩; have hbx := (Huq.out.trans hu4).blk Hb1.out; have q0 : w4.cell? ⟨w.heap.size + 1, 0, none⟩ = some (.int .i64 0) := cell_of_row w4 _ 0 _ _ _ hbx; have q1 : w4.cell? ⟨w.heap.size + 1, 1, none⟩ = some (.int .i64 0) := cell_of_row w4 _ 1 _ _ _ hbx; have g0 : ∀ o, w4.frozen? ⟨w.heap.size + 1, o, none⟩ = false := (fun o => frozen_of_row w4 _ o _ _ hbx); have hz : w.heap.size + 1 < w4.heap.size := lt_of_block hbx; clear hbx))
                     | (go_at_call 67; go_must ((with_reducible refine (Hct.out w4 hu4).mono ?_); rintro e w5 ⟨rfl, rfl⟩)))
                   refine bodyPost_ret (v := .agg #[.int .i64 7, .int .i64 k]) (by simp [results, Tryz.results38, go_sem, q0, q1]) rfl ?_; rw [Hgw.out Hi.out]; refine ⟨by first | rfl | simp, ?_⟩; repeat (with_reducible refine Up.setCell ?_ ?_ _)
                   · exact Hu.out.trans (Huq.out.trans hu4)
                   all_goals simp
                 | false =>
                   simp only [hcx] at hct; have Hi := hid (show nameN L k x = 0 by rw [hnm, hfx, hcx]; rfl); have Hfr := hid hfr; have Hct := hid hct; clear hnm hfr hfx hu hct hcx
                   go_wp2_with (first
                     | (go_at_call 66; go_must ((with_reducible refine Hfr.out.mono ?_); rintro e w4 ⟨rfl, hu4⟩))
                     | (go_at_call 67; go_must ((with_reducible refine (Hct.out w4 hu4).mono ?_); rintro e w5 ⟨rfl, hw5⟩; subst hw5)))
                   go_roundw
                   (case rel => exact ⟨k + 1, by omega, by go_num, Huq.out.trans hu4, Hgn.out Hi.out⟩); case measure => simp [intOf]; omega
             · (have hnok : namesOk f := fun j hj => by simp only [HH.out] at hj ⊢; exact Hg.out j hj (by omega)); have Hnok := hid hnok; clear hnok Hg; obtain ⟨wd, rfl⟩ : ∃ wd : World, wd = wr := ⟨_, rfl⟩; have Ud := hid (Hu.out.trans hu); have Hd0 := hid (hu.blk Hb0.out); have Hd1 := hid (hu.blk Hb1.out); have e0 : wd.cell? ⟨w.heap.size, 0, none⟩ = some (.slice mo f.msgs.length mc) := cell_of_row wd _ 0 _ _ _ Hd0.out; clear hu Huq Hb0 Hb1 Hu; (go_wp2_with fail); clear e0 hlt hk; (go_loopw [78] (fun i wr => ∃ k : Nat, k ≤ f.msgs.length ∧ i = .int .i64 k ∧ Up wd wr ∧ ∀ j, (hj : j < f.msgs.length) → j < k → msgN f f.msgs[j] = 0) (fun i _ => f.msgs.length - (intOf i).toNat)); case atStart => exact ⟨0, by omega, rfl, Up.refl _, fun j _ h => absurd h (by omega)⟩
               case round =>
                 obtain ⟨k, hk, rfl, hu, hg⟩ := hrel; have Hg := hid hg; have Huq := hid hu; clear hg
                 by_cases hlt : k < f.msgs.length
                 · obtain ⟨b', o', cs, rfl, hb', hl, hcs, hd⟩ := (Hm.out.up stable_msg (Ud.out.trans hu)).at hlt; obtain ⟨vf, vb, hd, hf1, hb1', hn⟩ := hd; subst hd; have c0 := hcs 0 _ rfl; have c1 := hcs 1 _ rfl; have c2 := hcs 2 _ rfl; simp only [Nat.add_zero] at c0; (have k0 : (0 : Int) ≤ (k : Int) := by omega); (have k1 : (k : Int) < (f.msgs.length : Int) := by omega); have e0 : wr.cell? ⟨w.heap.size, 0, none⟩ = some (.slice (some ⟨b', o', none⟩) f.msgs.length mc) := cell_of_row wr _ 0 _ _ _ (hu.blk Hd0.out); have e1 : wr.cell? ⟨w.heap.size, 1, none⟩ = some (.slice eo f.enums.length ec) := cell_of_row wr _ 1 _ _ _ (hu.blk Hd0.out); have Hgn := hid (fun e => zero_more' (q := msgN f) hlt Hg.out e); have Hgw := hid (fun e => wrong_msg (f := f) Hlen.out Hnok.out hlt Hg.out e); have Hfl := hid (fields_l f f.msgs[k] w.heap.size b' (o' + k * 3) _ _ vf vb wr (Hf.out.up (Ud.out.trans hu)) e0 e1 c1 c2 hf1 hb1'); clear hcs hl hf1 hb1' c0 c1 c2 e1 hu; generalize f.msgs[k] = x at *; go_wp2_with fail
                   (with_reducible refine Hfl.out.mono ?_)
                   rintro e w4 ⟨rfl, hu4⟩
                   by_cases hx : msgN f x = 0
                   · have Hx := hid hx; rw [hx]; clear hx; go_wp2_with fail
                     go_roundw
                     (case rel => exact ⟨k + 1, by omega, by go_num, Huq.out.trans hu4, Hgn.out Hx.out⟩); case measure => simp [intOf]; omega
                   · (have hxb : (msgN f x != 0) = true := by simpa using hx); have Hx := hid hx; clear hx; have hbx := (Huq.out.trans hu4).blk Hd1.out; have q0 : w4.cell? ⟨w.heap.size + 1, 0, none⟩ = some (.int .i64 0) := cell_of_row w4 _ 0 _ _ _ hbx; have q1 : w4.cell? ⟨w.heap.size + 1, 1, none⟩ = some (.int .i64 0) := cell_of_row w4 _ 1 _ _ _ hbx; have g0 : ∀ o, w4.frozen? ⟨w.heap.size + 1, o, none⟩ = false := (fun o => frozen_of_row w4 _ o _ _ hbx); have hz : w.heap.size + 1 < w4.heap.size := lt_of_block hbx; clear hbx; generalize hgx : msgN f x = ex at *; (go_wp2_with fail); refine bodyPost_ret (v := .agg #[.int .i64 ex, .int .i64 k]) (by simp [results, Tryz.results38, go_sem, q0, q1]) rfl ?_; rw [Hgw.out Hx.out]; refine ⟨by first | rfl | simp, ?_⟩; repeat (with_reducible refine Up.setCell ?_ ?_ _)
                     · exact Ud.out.trans (Huq.out.trans hu4)
                     all_goals simp
                 · have Hmok := hid (show msgsOk f from fun j hj => Hg.out j hj (by omega)); clear Hg; obtain ⟨we, rfl⟩ : ∃ we : World, we = wr := ⟨_, rfl⟩; have Ue := hid (Ud.out.trans hu); have He0 := hid (hu.blk Hd0.out); have He1 := hid (hu.blk Hd1.out); have e0 : we.cell? ⟨w.heap.size, 1, none⟩ = some (.slice eo f.enums.length ec) := cell_of_row we _ 1 _ _ _ He0.out; clear hu Huq Hd0 Hd1 Ud; (go_wp2_with fail); clear e0 hlt hk; (go_loopw [95] (fun i wr => ∃ k : Nat, k ≤ f.enums.length ∧ i = .int .i64 k ∧ Up we wr ∧ ∀ j, (hj : j < f.enums.length) → j < k → itemsN f.enums[j].items = 0) (fun i _ => f.enums.length - (intOf i).toNat)); case atStart => exact ⟨0, by omega, rfl, Up.refl _, fun j _ h => absurd h (by omega)⟩
                   case round =>
                     obtain ⟨k, hk, rfl, hu, hg⟩ := hrel; have Hg := hid hg; have Huq := hid hu; clear hg
                     by_cases hlt : k < f.enums.length
                     · obtain ⟨b', o', cs, rfl, hb', hl, hcs, hd⟩ := (He.out.up stable_enu (Ue.out.trans hu)).at hlt; obtain ⟨vf, hd, hf1, hn⟩ := hd; subst hd; have c1 := hcs 1 _ rfl; (have k0 : (0 : Int) ≤ (k : Int) := by omega); (have k1 : (k : Int) < (f.enums.length : Int) := by omega); have e0 : wr.cell? ⟨w.heap.size, 0, none⟩ = some (.slice mo f.msgs.length mc) := cell_of_row wr _ 0 _ _ _ (hu.blk He0.out); have e1 : wr.cell? ⟨w.heap.size, 1, none⟩ = some (.slice (some ⟨b', o', none⟩) f.enums.length ec) := cell_of_row wr _ 1 _ _ _ (hu.blk He0.out); have Hgn := hid (fun e => zero_more' (q := fun e : Enu => itemsN e.items) hlt Hg.out e); have Hgw := hid (fun e => wrong_enum (f := f) Hlen.out Hnok.out Hmok.out hlt Hg.out e); have Hfl := hid (items_l vf f.enums[k].items wr hf1); clear hcs hl hf1 hu; generalize f.enums[k] = x at *; go_wp2_with fail
                       (with_reducible refine Hfl.out.mono ?_)
                       rintro e w4 ⟨rfl, hu4⟩
                       by_cases hx : itemsN x.items = 0
                       · have Hx := hid hx; rw [hx]; clear hx; go_wp2_with fail
                         go_roundw
                         (case rel => exact ⟨k + 1, by omega, by go_num, Huq.out.trans hu4, Hgn.out Hx.out⟩); case measure => simp [intOf]; omega
                       · (have hxb : (itemsN x.items != 0) = true := by simpa using hx); have Hx := hid hx; have d0 := hu4.cell_some e0; clear hx; have hbx := (Huq.out.trans hu4).blk He1.out; have q0 : w4.cell? ⟨w.heap.size + 1, 0, none⟩ = some (.int .i64 0) := cell_of_row w4 _ 0 _ _ _ hbx; have q1 : w4.cell? ⟨w.heap.size + 1, 1, none⟩ = some (.int .i64 0) := cell_of_row w4 _ 1 _ _ _ hbx; have g0 : ∀ o, w4.frozen? ⟨w.heap.size + 1, o, none⟩ = false := (fun o => frozen_of_row w4 _ o _ _ hbx); have hz : w.heap.size + 1 < w4.heap.size := lt_of_block hbx; clear hbx; generalize hgx : itemsN x.items = ex at *; (go_wp2_with fail); refine bodyPost_ret (v := .agg #[.int .i64 ex, .int .i64 (f.msgs.length + k)]) (by simp [results, Tryz.results38, go_sem, q0, q1]) rfl ?_; rw [Hgw.out Hx.out]; refine ⟨by first | rfl | simp, ?_⟩; repeat (with_reducible refine Up.setCell ?_ ?_ _)
                         · exact Ue.out.trans (Huq.out.trans hu4)
                         all_goals simp
                     · have Hnone := hid (wrong_none (f := f) Hlen.out Hnok.out Hmok.out (fun j hj => Hg.out j hj (by omega))); have hbx := (hu).blk He1.out; have q0 : wr.cell? ⟨w.heap.size + 1, 0, none⟩ = some (.int .i64 0) := cell_of_row wr _ 0 _ _ _ hbx; have q1 : wr.cell? ⟨w.heap.size + 1, 1, none⟩ = some (.int .i64 0) := cell_of_row wr _ 1 _ _ _ hbx; have g0 : ∀ o, wr.frozen? ⟨w.heap.size + 1, o, none⟩ = false := (fun o => frozen_of_row wr _ o _ _ hbx); have hz : w.heap.size + 1 < wr.heap.size := lt_of_block hbx; clear hbx; (go_wp2_with fail); refine bodyPost_ret (v := .agg #[.int .i64 0, .int .i64 0]) (by simp [results, Tryz.results38, go_sem, q0, q1]) rfl ?_; rw [Hnone.out]; refine ⟨by first | rfl | simp, ?_⟩; repeat (with_reducible refine Up.setCell ?_ ?_ _)
                       · exact Ue.out.trans hu
                       all_goals simp
end Go.Proofs.YtbceapeoknngnaaGreatDoor
