/-
  press.Make.
-/
import Derived.Test.YtplgegffapikoaaNums
import Derived.Test.YtplgegffapikoaaStep
import Derived.Test.YtplgegffapikoaaWrongL
import Derived.Test.YtplgegffapikoaaRightPlain
import Derived.Deep.RegionWith
set_option linter.unusedVariables false
namespace Go.Proofs.Ytplgegffapikoaa
open Go.RowKit
theorem eStp : Elem Try.prog 67 72 5 40 (.agg #[.int .i64 0, .int .i64 0, .int .i64 0, .int .i64 0, .int .i64 0]) := ⟨Try.underlying67, info_parts (by kernel_rfl), rfl, by decide⟩
theorem ePrg : Elem Try.prog 54 67 1 24 (.slice none 0 0) := ⟨Try.underlying54, info_parts (by kernel_rfl), rfl, by decide⟩
theorem nums_len (m : Msg) : (numsN m).length = m.fields.length := by unfold numsN; rw [List.length_mergeSort, List.length_map]
theorem nums_idx (m : Msg) {n : Int} (h : n ∈ numsN m) : 0 ≤ idxP (fun x => x.number == n) m.fields := by
  unfold numsN at h
  obtain ⟨x, hx, e⟩ := List.mem_map.1 (List.mem_mergeSort.1 h)
  exact idxP_mem _ _ x hx (by simpa using e)
theorem idxP_okI {α : Type} (p : α → Bool) (l : List α) (hl : l.length ≤ 9223372036854775807) : okI (idxP p l) := by
  by_cases h : 0 ≤ idxP p l
  · obtain ⟨k, hk, e, _⟩ := idxP_find p l h
    rw [e]; constructor <;> omega
  · have : ∀ l : List α, -1 ≤ idxP p l := fun l => by
      induction l with
      | nil => simp [idxP]
      | cons a l ih => unfold idxP; split <;> (try split) <;> omega
    have := this l
    constructor <;> omega
theorem howN_okI (k : Int) : okI (howN k) := by unfold howN okI; (repeat' split) <;> omega
theorem step_okI (f : Fil) (x : Fld) (hx : okI x.number ∧ okI x.kind) (hl : f.msgs.length ≤ 9223372036854775807) : okI (stepX f x).kind ∧ okI (stepX f x).number ∧ okI (stepX f x).how ∧ okI (stepX f x).field ∧ okI (stepX f x).next := by
  unfold stepX
  refine ⟨?_, hx.1, howN_okI _, hx.2, ?_⟩
  · unfold okI; simp only; (repeat' split) <;> omega
  · simp only; split
    · exact idxP_okI _ _ hl
    · exact ⟨by decide, by decide⟩
theorem rdP_nil (w : World) : RdS DPrg 1 All w (.slice none 0 0) [] := ⟨none, 0, rfl, by simp, by unfold maxLen; omega, fun _ => rfl, fun i hi => by simp at hi⟩
theorem fld_ok {S : Nat → Prop} {w : World} {v : Value} {l : List Fld} (h : RdS DFld 6 S w v l) : ∀ x ∈ l, okI x.number ∧ okI x.kind := fun x hx => by
  obtain ⟨i, hi, rfl⟩ := List.getElem_of_mem hx
  obtain ⟨ao, cap, rfl, _, _⟩ := h.val
  obtain ⟨b, o, cs, _, _, _, _, hd⟩ := h.at hi
  exact ⟨hd.2.1, hd.2.2.1⟩
theorem fldN_mem (m : Msg) {n : Int} (h : 0 ≤ idxP (fun x => x.number == n) m.fields) : fldN m n ∈ m.fields ∧ (fldN m n).number = n := by
  obtain ⟨k, hk, e1, e2, e3⟩ := idxP_find _ _ h
  have e4 : fldN m n = m.fields[k] := by unfold fldN; rw [e2]; rfl
  rw [e4]
  exact ⟨List.getElem_mem hk, by simpa using e3⟩
set_option maxRecDepth 100000 in
set_option maxHeartbeats 3200000 in
theorem make_any (v : Value) (f : Fil) (w : World) (hf : FilV All w v f) (hsz : FilSz f) :
    Calls Try.prog 27 #[v] w fun e w' => ∃ v', e = .returned (.tuple #[v', .agg #[.int .i64 (wrongN f).1, .int .i64 ((wrongN f).2 : Int)]]) ∧ RdS DPrg 1 All w' v' (if (wrongN f).1 = 0 then makeN f else []) ∧ Up w w' := by
  have hwr := fun wx (u : Up w wx) => wrong_l v f wx (hf.up u)
  have Hf := Lib.hid hf
  obtain ⟨vm, ve, rfl, hm, he⟩ := hf
  obtain ⟨mo, mc, rfl, hm1, hm2⟩ := hm.val
  obtain ⟨eo, ec, rfl, he1, he2⟩ := he.val
  have Hm := Lib.hid hm
  have Hsz := Lib.hid hsz; have z1 := hsz.1
  have Hwr := Lib.hid hwr
  generalize hpw : wrongN f = pw at *
  have Hpw := Lib.hid hpw
  clear hpw hm he hsz hwr
  obtain ⟨er, at_⟩ := pw
  simp only at Hwr ⊢
  obtain ⟨R, hR⟩ : ∃ R, R = if er = 0 then makeN f else [] := ⟨_, rfl⟩
  rw [← hR]
  have HR := Lib.hid hR
  clear hR
  go_enter Try.func27, Try.ntmps27
  go_wp2_with fail
  have hb0 : ((w.alloc (.cells #[.slice mo f.msgs.length mc, .slice eo f.enums.length ec] 45)).alloc (.cells #[.int .i64 0, .int .i64 0] 34)).heap[w.heap.size]? = some (.cells #[.slice mo f.msgs.length mc, .slice eo f.enums.length ec] 45 (0, 0)) := blk_old _ (blk_new w _ rfl)
  have hb1 : ((w.alloc (.cells #[.slice mo f.msgs.length mc, .slice eo f.enums.length ec] 45)).alloc (.cells #[.int .i64 0, .int .i64 0] 34)).heap[w.heap.size + 1]? = some (.cells #[.int .i64 0, .int .i64 0] 34 (0, 0)) := blk_new (w.alloc _) _ (by simp)
  have hua : Up w ((w.alloc (.cells #[.slice mo f.msgs.length mc, .slice eo f.enums.length ec] 45)).alloc (.cells #[.int .i64 0, .int .i64 0] 34)) := ((Up.refl w).alloc _).alloc _
  generalize (w.alloc (.cells #[.slice mo f.msgs.length mc, .slice eo f.enums.length ec] 45)).alloc (.cells #[.int .i64 0, .int .i64 0] 34) = wa at *
  refine (Hwr.out wa hua).mono ?_
  rintro e w1 ⟨rfl, hu1⟩
  have Hb0 := Lib.hid (hu1.blk hb0); have Hb1 := Lib.hid (hu1.blk hb1); have Hu1 := Lib.hid (hua.trans hu1)
  clear hb0 hb1 hua hu1 Hwr
  have r0 : w1.cell? ⟨w.heap.size + 1, 0, none⟩ = some (.int .i64 0) := cell_of_row w1 _ 0 _ _ _ Hb1.out
  have r1 : w1.cell? ⟨w.heap.size + 1, 1, none⟩ = some (.int .i64 0) := cell_of_row w1 _ 1 _ _ _ Hb1.out
  have rf' : ∀ o, w1.frozen? ⟨w.heap.size + 1, o, none⟩ = false := fun o => frozen_of_row w1 _ o _ _ Hb1.out
  have rz : w.heap.size + 1 < w1.heap.size := lt_of_block Hb1.out
  have rz0 : w.heap.size < w1.heap.size := by omega
  have rne : w1.heap.size ≠ w.heap.size + 1 := by omega
  by_cases her : er = 0
  · subst her
    have HR2 := Lib.hid (show R = makeN f by rw [HR.out, if_pos rfl])
    go_upto_region 5 with (fail)
    have b1 := blk_old (.cells #[.int .i64 0, .int .i64 (at_ : Int)] 34) Hb0.out
    have b2 := blk_old (.cells #[.int .i64 0, .int .i64 (at_ : Int)] 34) Hb1.out
    have b3 := Hu1.out.alloc (.cells #[.int .i64 0, .int .i64 (at_ : Int)] 34)
    generalize w1.alloc (.cells #[.int .i64 0, .int .i64 (at_ : Int)] 34) = w2 at *
    have Hb0 := Lib.hid b1; have Hb1 := Lib.hid b2; have Hu2 := Lib.hid b3
    clear b1 b2 b3 r0 r1 rf' Hu1
    have f0 : w2.cell? ⟨w.heap.size, 0, none⟩ = some (.slice mo f.msgs.length mc) := cell_of_row w2 _ 0 _ _ _ Hb0.out
    have zz : w.heap.size + 1 < w2.heap.size := lt_of_block Hb1.out
    go_wp2_with fail
    clear f0
    go_loopw [19, 5] (fun i v wr => ∃ k : Nat, k ≤ f.msgs.length ∧ i = .int .i64 k ∧ OwnS DPrg w2.heap.size 67 1 (fun b => w2.heap.size ≤ b) wr v ((f.msgs.take k).map (prgN f)) ∧ Up w2 wr) (fun i _ _ => f.msgs.length - (intOf i).toNat)
    case atStart => exact ⟨0, by omega, rfl, OwnS.nil _ _ _ _ _ _, Up.refl _⟩
    case round =>
      obtain ⟨k, hk, rfl, how, hu⟩ := hrel
      have How := Lib.hid how; clear how
      by_cases hlt : k < f.msgs.length
      · --[
        obtain ⟨b, o, cs, rfl, hb, hl, hcs, hd⟩ := (Hm.out.up stable_msg (Hu2.out.trans hu)).at hlt
        obtain ⟨vf, vb, hd, hf1, hb1', hn⟩ := hd
        obtain ⟨fo, fc, rfl, hfc1, hfc2⟩ := hf1.val
        obtain ⟨bo, bc, rfl, hbc1, hbc2⟩ := hb1'.val
        subst hd
        have c0 := hcs 0 _ rfl
        have c1 := hcs 1 _ rfl
        have c2 := hcs 2 _ rfl
        simp only [Nat.add_zero] at c0
        have k0 : (0 : Int) ≤ (k : Int) := by omega
        have k1 : (k : Int) < (f.msgs.length : Int) := by omega
        have hsn : (f.msgs.take (k + 1)).map (prgN f) = (f.msgs.take k).map (prgN f) ++ [prgN f f.msgs[k]] := by rw [List.take_succ_eq_append_getElem hlt, List.map_append]; rfl
        have hll : (((f.msgs.take k).map (prgN f)).length + 1) ≤ f.msgs.length := by rw [List.length_map, List.length_take]; omega
        have hz3 := (Hsz.out.2.2.1 _ (List.getElem_mem hlt)).1
        have Hsn := Lib.hid hsn; have Hf1 := Lib.hid hf1; have Hb1' := Lib.hid hb1'
        clear hcs hl hsn hf1 hb1' hn
        generalize (f.msgs.take k).map (prgN f) = L at *
        generalize f.msgs[k] = m at *
        obtain ⟨wo, rfl⟩ : ∃ wo : World, wo = wr := ⟨_, rfl⟩
        have f0 : wo.cell? ⟨w.heap.size, 0, none⟩ = some (.slice (some ⟨b, o, none⟩) f.msgs.length mc) := cell_of_row wo _ 0 _ _ _ (hu.blk Hb0.out)
        have Hu := Lib.hid hu; have hwo : w2.heap.size ≤ wo.heap.size := hu.size
        have Hlt4 := Lib.hid (fun j (hj : u5.ownBlock = some j) => (How.out.lo j hj))
        clear hu
        go_wp2_with fail
        refine (numbers_any m (.string ⟨m.name.toArray⟩) _ _ wo ⟨_, rfl⟩ ⟨_, _, _, rfl⟩ Hf1.out (by omega)).mono ?_
        rintro e w3 ⟨v3, rfl, how3, hu3⟩
        obtain ⟨a3, c3, rfl⟩ := own_val how3.own.choose_spec
        have hrd3 := how3.rd stable_int (S' := All) (fun _ h => h.elim) (fun _ _ => trivial)
        have hw3 : wo.heap.size ≤ w3.heap.size := hu3.size
        have hns : (numsN m).length * 64 ≤ 140737488355328 := by rw [nums_len]; exact hz3
        have Hrd3 := Lib.hid hrd3; have Hu3 := Lib.hid hu3
        have Hpr := Lib.hid (show prgN f m = (numsN m).map (fun n => stepX f (fldN m n)) from rfl)
        have Hidx := Lib.hid (fun n (h : n ∈ numsN m) => nums_idx m h)
        have Hok := Lib.hid (fun n (h : n ∈ numsN m) => fld_ok Hf1.out _ (fldN_mem m (nums_idx m h)).1)
        clear how3 hrd3 hu3 f0
        generalize numsN m = ns at *
        go_wp2_with fail
        go_loopw [29, 7] (fun i v wr => ∃ k2 : Nat, k2 ≤ ns.length ∧ i = .int .i64 k2 ∧ OwnS DStp w3.heap.size 72 5 No wr v ((ns.take k2).map (fun n => stepX f (fldN m n))) ∧ Up w3 wr) (fun i _ _ => ns.length - (intOf i).toNat)
        case atStart => exact ⟨0, by omega, rfl, OwnS.nil _ _ _ _ _ _, Up.refl _⟩
        case round =>
          obtain ⟨k2, hk2, rfl, how4, hu4⟩ := hrel
          have How4 := Lib.hid how4; clear how4
          by_cases hlt2 : k2 < ns.length
          · --[
            obtain ⟨b3, o3, cs, rfl, hb3, hl, hcs, hd⟩ := (Hrd3.out.up stable_int hu4).at hlt2
            obtain ⟨hd, hx⟩ := hd
            subst hd
            have n0 := hcs 0 _ rfl
            simp only [Nat.add_zero, Nat.mul_one] at n0
            have k20 : (0 : Int) ≤ (k2 : Int) := by omega
            have k21 : (k2 : Int) < (ns.length : Int) := by omega
            have hsn2 : (ns.take (k2 + 1)).map (fun n => stepX f (fldN m n)) = (ns.take k2).map (fun n => stepX f (fldN m n)) ++ [stepX f (fldN m ns[k2])] := by rw [List.take_succ_eq_append_getElem hlt2, List.map_append]; rfl
            have hll2 : ((ns.take k2).map (fun n => stepX f (fldN m n))).length + 1 ≤ ns.length := by rw [List.length_map, List.length_take]; omega
            have hidx := Hidx.out _ (List.getElem_mem hlt2)
            have hok := step_okI f _ (Hok.out _ (List.getElem_mem hlt2)) (by omega)
            have Hsn2 := Lib.hid hsn2; have Hidx2 := Lib.hid hidx; have Hok2 := Lib.hid hok
            clear hcs hl hsn2 hidx hok hx
            generalize (ns.take k2).map (fun n => stepX f (fldN m n)) = L2 at *
            generalize ns[k2] = n at *
            obtain ⟨wi, rfl⟩ : ∃ wi : World, wi = wr := ⟨_, rfl⟩
            have hu34 := Hu3.out.trans hu4
            have f0 : wi.cell? ⟨w.heap.size, 0, none⟩ = some (.slice (some ⟨b, o, none⟩) f.msgs.length mc) := cell_of_row wi _ 0 _ _ _ ((Hu.out.trans hu34).blk Hb0.out)
            have f1 : wi.cell? ⟨w.heap.size, 1, none⟩ = some (.slice eo f.enums.length ec) := cell_of_row wi _ 1 _ _ _ ((Hu.out.trans hu34).blk Hb0.out)
            have m0 := hu34.cell_some c0; have m1 := hu34.cell_some c1; have m2 := hu34.cell_some c2
            have Hst := Lib.hid (step_any w.heap.size b (o + k * 3) f m _ _ _ _ n wi f0 f1 (Hf.out.up (Hu2.out.trans (Hu.out.trans hu34))) m0 m1 m2 (Hf1.out.up stable_fld hu34) (Hb1'.out.up stable_int hu34) Hidx2.out)
            have Hu4 := Lib.hid hu4; have hwi : w3.heap.size ≤ wi.heap.size := hu4.size
            generalize stepX f (fldN m n) = st at *
            clear hu34 m0 m1 m2 f1 hu4
            go_wp2_with fail
            (with_reducible refine Hst.out.mono ?_)
            rintro e w5 ⟨rfl, hu5⟩
            obtain ⟨xs, hxs⟩ := (How4.out.up stable_stp hu5).own
            have Hxs := Lib.hid hxs; have Hu5 := Lib.hid hu5; have hw5 : wi.heap.size ≤ w5.heap.size := hu5.size
            clear hxs hu5
            go_wp2_with (first
              | (at_builtin; go_must (refine wpList_app1 eStp _ (by rfl) _ _ (by rfl) w3.heap.size _ _ _ (by rfl) Hxs.out _ (by rfl) (by first | rfl | simp) (by rfl) (oc (by rfl)) (by omega) (by unfold maxLen; omega) (by first | omega | (simp; omega)) ?_; intro v6 w6 how6 hev6; have How6 := Lib.hid how6; have Hev6 := Lib.hid hev6; clear how6 hev6)))
            go_roundw
            case rel =>
              refine ⟨k2 + 1, by omega, by go_num, ?_, Up.evo (Hu4.out.trans Hu5.out) Hev6.out (fun j hj => (How4.out.lo j hj).1)⟩
              rw [Hsn2.out]
              exact OwnS.snoc stable_stp (a := st) (How4.out.up stable_stp Hu5.out) Hxs.out How6.out Hev6.out (by rfl) ⟨rfl, Hok2.out⟩
            case measure => simp [intOf]; omega
            --]
          · have hfin : ns.take k2 = ns := List.take_of_length_le (by omega)
            have how4 := How4.out
            rw [hfin, ← Hpr.out] at how4
            have hpl : (prgN f m).length = ns.length := by rw [Hpr.out, List.length_map]
            obtain ⟨a4, c4, rfl⟩ := own_val how4.own.choose_spec
            rw [hpl] at how4
            rw [hpl] at How4
            have How4' := Lib.hid how4
            have hu34 := Hu3.out.trans hu4
            obtain ⟨xs, hxs⟩ := (How.out.up stable_prg hu34).own
            have Hxs := Lib.hid hxs; have Hu34 := Lib.hid hu34; have hwr : w3.heap.size ≤ wr.heap.size := hu4.size
            clear hxs hu34 hu4 how4 How4 hfin
            generalize prgN f m = pm at *
            go_wp2_with (first
              | (at_builtin; go_must (refine wpList_app1 ePrg _ (by rfl) _ _ (by rfl) w2.heap.size _ _ _ (by rfl) Hxs.out _ (by rfl) (by first | rfl | simp) (by rfl) (oc (by rfl)) (by omega) (by unfold maxLen; omega) (by first | omega | (simp; omega)) ?_; intro v6 w6 how6 hev6; have How6 := Lib.hid how6; have Hev6 := Lib.hid hev6; clear how6 hev6)))
            go_roundw
            case rel =>
              refine ⟨k + 1, by omega, by go_num, ?_, Up.evo (Hu.out.trans Hu34.out) Hev6.out (fun j hj => (Hlt4.out j hj).1)⟩
              rw [Hsn.out]
              refine OwnS.snoc stable_prg (a := pm) (How.out.up stable_prg Hu34.out) Hxs.out How6.out Hev6.out (by rfl) ⟨_, rfl, ?_⟩
              exact How4'.out.rd stable_stp (fun _ h => h.elim) (fun j hj => ⟨show w2.heap.size ≤ j by have := (How4'.out.lo j hj).1; omega, fun e => by have := (Hlt4.out _ e).2; have := (How4'.out.lo j hj).1; omega⟩)
            case measure => simp [intOf]; omega
        --]
      · have hfin : f.msgs.take k = f.msgs := List.take_of_length_le (by omega)
        have how := How.out
        rw [hfin] at how
        obtain ⟨ao, co, rfl⟩ := own_val how.own.choose_spec
        have Hrd := Lib.hid (how.rd stable_prg (S' := fun b => w2.heap.size ≤ b) (fun _ h => h) (fun j hj => (how.lo j hj).1))
        have hbk := hu.blk Hb1.out
        have r0 : wr.cell? ⟨w.heap.size + 1, 0, none⟩ = some (.int .i64 0) := cell_of_row wr _ 0 _ _ _ hbk
        have r1 : wr.cell? ⟨w.heap.size + 1, 1, none⟩ = some (.int .i64 0) := cell_of_row wr _ 1 _ _ _ hbk
        have rf' : ∀ o, wr.frozen? ⟨w.heap.size + 1, o, none⟩ = false := fun o => frozen_of_row wr _ o _ _ hbk
        have rz2 : w.heap.size + 1 < wr.heap.size := lt_of_block hbk
        have Hux := Lib.hid (Hu2.out.trans hu)
        clear how How hfin hbk hu
        go_wp2_with fail
        refine bodyPost_ret (v := .tuple #[.slice ao f.msgs.length co, .agg #[.int .i64 0, .int .i64 0]]) (by simp [results, Try.results27, go_sem, r0, r1, rz2]) rfl ?_
        have hat : at_ = 0 := by
          have h := (wrongN_ok (f := f) (by rw [Hpw.out])).1
          rw [Hpw.out] at h
          simpa using h
        subst hat
        refine ⟨_, rfl, ?_, ?_⟩
        · rw [HR2.out]
          have hrd := Hrd.out
          simp only [List.length_map] at hrd
          refine RdS.keep stable_prg (S := fun b => w2.heap.size ≤ b) ?_ Keep.all
          refine RdS.keep stable_prg (RdS.keep stable_prg hrd (Keep.setCell (show ¬ (w2.heap.size ≤ w.heap.size + 1) by omega) _)) (Keep.setCell (show ¬ (w2.heap.size ≤ w.heap.size + 1) by omega) _)
        · repeat (first | (with_reducible refine Up.setCell ?_ ?_ _) | (with_reducible refine Up.alloc ?_ _) | (with_reducible refine Up.drew ?_))
          · exact Hux.out
          all_goals (simp only; omega)
  · have HR2 := Lib.hid (show R = [] by rw [HR.out, if_neg her])
    have hb : (er != 0) = true := by simpa using her
    clear her
    go_wp2_with fail
    go_region
    all_goals
      go_wp2_with fail
      refine bodyPost_ret (v := .tuple #[.slice none 0 0, .agg #[.int .i64 er, .int .i64 (at_ : Int)]]) (by simp [results, Try.results27, go_sem, r0, r1, rz, rz0, rne]) rfl ?_
      refine ⟨_, rfl, by rw [HR2.out]; exact rdP_nil _, ?_⟩
      repeat (first | (with_reducible refine Up.setCell ?_ ?_ _) | (with_reducible refine Up.alloc ?_ _) | (with_reducible refine Up.drew ?_))
      · exact Hu1.out
      all_goals (simp only; omega)
end Go.Proofs.Ytplgegffapikoaa
