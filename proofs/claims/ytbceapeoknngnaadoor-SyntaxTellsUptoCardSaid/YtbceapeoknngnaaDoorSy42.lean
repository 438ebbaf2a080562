/-
  syntax.Print: a file's text.
-/
import Derived.Test.YtbceapeoknngnaaDoorSy41
import Derived.Shelf.Abstract
set_option linter.unusedVariables false
namespace Go.Proofs.YtbceapeoknngnaaDoor
open Go.RowKit
set_option maxRecDepth 100000
open Lib (hid)
theorem bld_new (w0 : World) : Bld w0.heap.size w0.heap.size [] (w0.alloc (.cells #[.pointer none, .slice none 0 0] 64)) :=
 .inl ⟨Nat.le_refl _, _, blk_new w0 _ rfl, ⟨rfl, .inl ⟨rfl, rfl⟩⟩, by intro e; cases e⟩
set_option maxHeartbeats 6400000 in
theorem print_s (va : Value) (F : Fil) (w : World) (hf : FilV All w va F) (hT : (printP F).length ≤ 140737488355328) (hp : Pow w) :
   Calls Tryd.prog 7 #[va] w fun e w' => e = .returned (.string ⟨(printP F).toArray⟩) ∧ Up w w' := by
 obtain ⟨vm, ve, rfl, hm, he⟩ := hf; obtain ⟨mo, mc, rfl, hm1, hm2⟩ := hm.val; obtain ⟨eo, ec, rfl, he1, he2⟩ := he.val; obtain ⟨w0, hw0⟩ : ∃ w0, w0 = w.alloc (.cells #[.slice mo F.msgs.length mc, .slice eo F.enums.length ec] 25) := ⟨_, rfl⟩; have hu0 : Up w w0 := hw0 ▸ (Up.refl w).alloc _; have hblk : w0.heap[w.heap.size]? = some (.cells #[.slice mo F.msgs.length mc, .slice eo F.enums.length ec] 25 (0, 0)) := hw0 ▸ blk_new w _ rfl; have Hm := hid (hm.up stable_msg hu0); have He := hid (he.up stable_enu hu0); have HP := hid (hp.up hu0); have HU0 := hid hu0; have HBk := hid hblk; have HT := hid hT; clear hm he hp hu0 hT; obtain ⟨X, hX⟩ : ∃ X, w.heap.size = X := ⟨_, rfl⟩; (have hs0 : w0.heap.size = X + 1 := by rw [hw0, ← hX]; simp); have Hs0 := hid hs0; rw [hX] at HBk hblk; have x0 : w0.cell? ⟨X, 0, none⟩ = some (.slice mo F.msgs.length mc) := cell_of_row w0 X 0 _ _ _ hblk; have x1 : w0.cell? ⟨X, 1, none⟩ = some (.slice eo F.enums.length ec) := cell_of_row w0 X 1 _ _ _ hblk; have HWs := hid (show Wr w0 (X + 1) (printP F) (F.enums.flatMap enumW ++ F.msgs.flatMap messW) (w0.alloc (.cells #[.pointer none, .slice none 0 0] 64)) from ⟨[], (Up.refl _).alloc _, hs0 ▸ bld_new w0, rfl⟩)
 go_enter Tryd.func7, Tryd.ntmps7
 go_upto_region 2 with (fail)
 rw [← hw0]; obtain ⟨w1, hw1⟩ : ∃ w1, w1 = w0.alloc (.cells #[.pointer none, .slice none 0 0] 64) := ⟨_, rfl⟩; rw [← hw1] at HWs ⊢; clear hw0 hw1 hblk hs0 hX; have d1 := HWs.out.base.cell_some x1; (go_wp2_with fail); (go_loopw [14] (fun i wr => ∃ p : Nat, p ≤ F.enums.length ∧ i = .int .i64 p ∧ Wr w0 (X + 1) (printP F) ((F.enums.drop p).flatMap enumW ++ F.msgs.flatMap messW) wr) (fun i _ => F.enums.length - (intOf i).toNat)); case atStart => exact ⟨0, by omega, rfl, HWs.out⟩
 case round =>
   obtain ⟨p, hp, rfl, hw⟩ := hrel; have Hw := hid hw; clear hw d1
   by_cases hlt : p < F.enums.length
   · obtain ⟨b', o', cs', heo, hb', hl', hcs', hd'⟩ := He.out.at hlt; obtain ⟨vi, hd', hi, hnm⟩ := hd'; subst hd'; subst heo; obtain ⟨io, ic, rfl, hi1, hi2⟩ := hi.val; have e0 := hcs' 0 _ rfl; have e1 := hcs' 1 _ rfl; simp only [Nat.add_zero] at e0; have hw2 := Hw.out; rw [List.drop_eq_getElem_cons hlt, List.flatMap_cons] at hw2; have Hi := hid hi; generalize F.enums[p] = e at *; unfold okS at hnm; (have i0 : (0 : Int) ≤ (p : Int) := by omega); (have i1 : (p : Int) < (F.enums.length : Int) := by omega); have Hw2 := hid (hw2.as (R' := (sEnum ++ e.name ++ sOpen) ++ (e.items.flatMap itemW ++ (sShut ++ ((F.enums.drop (p + 1)).flatMap enumW ++ F.msgs.flatMap messW)))) (by unfold enumW; simp only [List.append_assoc])); obtain ⟨s1, hs1, cat1⟩ := cat_run ⟨#[101, 110, 117, 109, 32]⟩ ⟨e.name.toArray⟩ sEnum e.name rfl rfl (by simp [sEnum]; omega); obtain ⟨s2, hs2, cat2⟩ := cat_run s1 ⟨#[32, 123, 10]⟩ _ sOpen hs1 rfl (by simp [sEnum, sOpen]; omega); have Hs := hid hs2; clear hcs' hl' hi hw2 Hw hs1 hs2; have d1 := Hw2.out.base.cell_some x1; have d2 := Hw2.out.base.cell_some e0; (go_wp2_with fail); refine (write_w _ _ Hw2.out Hs.out HT.out).mono ?_; rintro er w3 ⟨rfl, hw3⟩; have Hw3 := hid hw3; clear d1 d2 hw3 Hw2 Hs cat1 cat2; have d3 := Hw3.out.base.cell_some e1; (go_wp2_with fail); (go_loopw [34] (fun i wr => ∃ q : Nat, q ≤ e.items.length ∧ i = .int .i64 q ∧ Wr w0 (X + 1) (printP F) ((e.items.drop q).flatMap itemW ++ (sShut ++ ((F.enums.drop (p + 1)).flatMap enumW ++ F.msgs.flatMap messW))) wr) (fun i _ => e.items.length - (intOf i).toNat)); case atStart => exact ⟨0, by omega, rfl, Hw3.out⟩
     case round =>
       obtain ⟨q, hq, rfl, hw⟩ := hrel; have Hw := hid hw; clear hw d3
       by_cases hlt2 : q < e.items.length
       · obtain ⟨b2, o2, cs2, hio, hb2, hl2, hcs2, hd2⟩ := Hi.out.at hlt2; obtain ⟨hd2, hv, hnm2⟩ := hd2; subst hd2; subst hio; have f0 := hcs2 0 _ rfl; have f1 := hcs2 1 _ rfl; simp only [Nat.add_zero] at f0; have hw2 := Hw.out; rw [List.drop_eq_getElem_cons hlt2, List.flatMap_cons] at hw2; generalize e.items[q] = x at *; unfold okS at hnm2; (have j0 : (0 : Int) ≤ (q : Int) := by omega); (have j1 : (q : Int) < (e.items.length : Int) := by omega); have Hw2 := hid (hw2.as (R' := (sTwo ++ x.name ++ sEq ++ Lib.itoa x.value ++ sEnd) ++ ((e.items.drop (q + 1)).flatMap itemW ++ (sShut ++ ((F.enums.drop (p + 1)).flatMap enumW ++ F.msgs.flatMap messW)))) (by unfold itemW; simp only [List.append_assoc]))
         have hlT : x.name.length + (Lib.itoa x.value).length ≤ 140737488355328 := by
           obtain ⟨acc, _, _, h3⟩ := Hw2.out; have := HT.out; rw [← h3] at this; simp only [List.length_append] at this; omega
         obtain ⟨s1, hs1, cat1⟩ := cat_run ⟨#[32, 32]⟩ ⟨x.name.toArray⟩ sTwo x.name rfl rfl (by simp [sTwo]; omega); obtain ⟨s2, hs2, cat2⟩ := cat_run s1 ⟨#[32, 61, 32]⟩ _ sEq hs1 rfl (by simp [sTwo, sEq]; omega); obtain ⟨s3, hs3, cat3⟩ := cat_run s2 ⟨(Lib.itoa x.value).toArray⟩ _ (Lib.itoa x.value) hs2 rfl (by simp [sTwo, sEq]; omega); obtain ⟨s4, hs4, cat4⟩ := cat_run s3 ⟨#[59, 10]⟩ _ sEnd hs3 rfl (by simp [sTwo, sEq, sEnd]; omega); have Hs := hid hs4; have Hv := hid hv; clear hcs2 hl2 hw2 Hw hs1 hs2 hs3 hs4 hv hlT; have d0 := Hw2.out.base.cell_some f0; have d1 := Hw2.out.base.cell_some f1; obtain ⟨G, hG⟩ : ∃ G, wr.heap.size = G := ⟨_, rfl⟩; obtain ⟨wb, hwb⟩ : ∃ wb, wb = wr.alloc (.cells #[.string ⟨x.name.toArray⟩, .int .i64 x.value] 60) := ⟨_, rfl⟩; have hbb := hwb ▸ blk_new wr (.cells #[.string ⟨x.name.toArray⟩, .int .i64 x.value] 60) hG.symm; have Hwb := hid (hwb ▸ Hw2.out.up ((Up.refl wr).alloc _) : Wr w0 (X + 1) (printP F) _ wb)
         go_upto_region 10 with (fail)
         rw [← hwb]; have b0 : wb.cell? ⟨G, 0, none⟩ = some (.string ⟨x.name.toArray⟩) := cell_of_row wb G 0 _ _ _ hbb; have b1 : wb.cell? ⟨G, 1, none⟩ = some (.int .i64 x.value) := cell_of_row wb G 1 _ _ _ hbb; clear hG hwb hbb d0 d1 Hw2
         go_region_with (first
           | (go_at_call 26; refine (itoa_s _ Hv.out _ (HP.out.up (Hwb.out.base.trans ((Up.refl _).drew)))).mono ?_; rintro er w6 ⟨rfl, hu6⟩; have Hw6 := hid (Hwb.out.up ((Up.refl _).drew.trans hu6)); have b2 := ((Up.refl _).drew.trans hu6).cell_some b0; clear hu6)
           | (go_at_call 25; refine (write_w _ _ Hw6.out Hs.out HT.out).mono ?_; rintro er w7 ⟨rfl, hw7⟩; have Hw7 := hid hw7; clear hw7))
         all_goals
           go_wp2_with fail
           go_roundw
           (case rel => exact ⟨q + 1, by omega, by go_num, Hw7.out⟩); case measure => simp [intOf]; omega
       · (have hqe : q = e.items.length := by omega); have hw2 := Hw.out; rw [hqe, List.drop_length, List.flatMap_nil, List.nil_append] at hw2; have Hw2 := hid hw2; clear hw2 Hw hqe; (go_wp2_with fail); refine (write_w _ _ Hw2.out rfl HT.out).mono ?_; rintro er w6 ⟨rfl, hw6⟩; go_wp2_with fail
         go_roundw
         (case rel => exact ⟨p + 1, by omega, by go_num, hw6⟩); case measure => simp [intOf]; omega
   · (have hpe : p = F.enums.length := by omega); have hw2 := Hw.out; rw [hpe, List.drop_length, List.flatMap_nil, List.nil_append] at hw2; have Hw2 := hid hw2; clear hw2 Hw hpe; have d0 := Hw2.out.base.cell_some x0; (go_wp2_with fail); (go_loopw [56] (fun i wr => ∃ q : Nat, q ≤ F.msgs.length ∧ i = .int .i64 q ∧ Wr w0 (X + 1) (printP F) ((F.msgs.drop q).flatMap messW) wr) (fun i _ => F.msgs.length - (intOf i).toNat)); case atStart => exact ⟨0, by omega, rfl, Hw2.out⟩
     case round =>
       obtain ⟨q, hq, rfl, hw⟩ := hrel; have Hw := hid hw; clear hw d0
       by_cases hlt : q < F.msgs.length
       · have d0 := Hw.out.base.cell_some x0; obtain ⟨b2, o2, cs2, hmo, hb2, hl2, hcs2, hd2⟩ := Hm.out.at hlt; subst hmo; have Hcs := hid hcs2; have Hd := hid hd2; have hw2 := Hw.out; rw [List.drop_eq_getElem_cons hlt, List.flatMap_cons] at hw2; have Hw3 := hid hw2; generalize F.msgs[q] = m at *; (have j0 : (0 : Int) ≤ (q : Int) := by omega); (have j1 : (q : Int) < (F.msgs.length : Int) := by omega); clear hcs2 hd2 hw2 Hw hl2; (go_wp2_with fail); refine (message_w w0 (X + 1) _ _ m b2 (o2 + q * 3) cs2 _ HP.out Hw3.out HT.out Hcs.out Hd.out).mono ?_; rintro er w6 ⟨rfl, hw6⟩; go_wp2_with fail
         go_roundw
         (case rel => exact ⟨q + 1, by omega, by go_num, hw6⟩); case measure => simp [intOf]; omega
       · (have hqe : q = F.msgs.length := by omega); have hw2 := Hw.out; rw [hqe, List.drop_length, List.flatMap_nil] at hw2; obtain ⟨acc, h1, h2, h3⟩ := hw2; rw [List.append_nil] at h3; subst h3; have H1 := hid h1; have H2 := hid h2; clear h1 h2 hqe Hw; (go_wp2_with fail); refine (string_s _ _ _ _ H2.out H1.out.size).mono ?_; rintro er w6 ⟨rfl, hu6⟩; go_wp2_with fail
         go_ret
         exact ⟨rfl, HU0.out.trans (Below.trans H1.out hu6)⟩
end Go.Proofs.YtbceapeoknngnaaDoor
