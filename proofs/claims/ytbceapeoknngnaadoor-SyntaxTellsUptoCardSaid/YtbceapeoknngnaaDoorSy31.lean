/-
  The document's parser: Field.
-/
import Derived.Test.YtbceapeoknngnaaDoorSy29
import Derived.Test.YtbceapeoknngnaaDoorSy30
import Derived.Test.YtbceapeoknngnaaDoorSy19
set_option linter.unusedVariables false
namespace Go.Proofs.YtbceapeoknngnaaDoor
open Go.RowKit
set_option maxRecDepth 100000
structure RF (g : Nat) (s : ByteArray) (w : World) (R F : Nat) (t : TypeId) (z cs : Array Value) (st : WSt) (wi : World) : Prop where
 pw : RAt g s st wi
 gr : Gr g w wi
 f : wi.heap[F]? = some (.cells cs t (0, 0))
 r : wi.heap[R]? = some (.cells z t (0, 0))
section
variable {g : Nat} {s : ByteArray} {w : World} {R F : Nat} {t : TypeId} {z cs : Array Value} {st : WSt} {wi : World}
theorem RF.step (h : RF g s w R F t z cs st wi) {wj : World} {st' : WSt} (hg : Gr g wi wj) (hp : RAt g s st' wj) (hR : R ≠ g) (hF : F ≠ g) : RF g s w R F t z cs st' wj := ⟨hp, h.gr.trans hg, hg.blk h.f hF, hg.blk h.r hR⟩
theorem RF.up (h : RF g s w R F t z cs st wi) {wj : World} (hu : Up wi wj) : RF g s w R F t z cs st wj := ⟨h.pw.up hu, h.gr.up hu, hu.blk h.f, hu.blk h.r⟩
theorem RF.set (h : RF g s w R F t z cs st wi) (i : Nat) (u : Value) (hF : F ≠ g) (hR : R ≠ F) (hw : w.heap.size ≤ F) : RF g s w R F t z (cs.setIfInBounds i u) st (wi.setCell ⟨F, i, none⟩ u) :=
 ⟨h.pw.other hF u, h.gr.setNew hw u, heap_setCell_same wi F i _ _ _ h.f, (Below.heap_setCell wi ⟨F, i, none⟩ u R hR).trans h.r⟩
end
def kindT (k : Nat) (w : List UInt8) : Int × List UInt8 := if 0 ≤ idxP (fun x => w == x) (words.take k) then (idxP (fun x => w == x) (words.take k) + 1, []) else (10, w)
theorem idxP_snoc {α : Type} (p : α → Bool) (a : α) (ha : p a = false) : ∀ l : List α, idxP p (l ++ [a]) = idxP p l
 | [] => by simp [idxP, ha]
 | b :: l => by
   rw [List.cons_append, idxP, idxP, idxP_snoc p a ha l]
theorem kindT_no {k : Nat} (hk : k < words.length) {w : List UInt8} (h : (w == words[k]) = false) : kindT (k + 1) w = kindT k w := by
 unfold kindT; rw [List.take_succ_eq_append_getElem hk, idxP_snoc (fun x => w == x) _ h]
theorem kindT_yes : ∀ k : Fin 9, kindT (k.val + 1) (words[k.val]'k.isLt) = ((k.val : Int) + 1, []) := by decide
theorem kindT_all (w : List UInt8) : kindT 9 w = kindP w := rfl
set_option maxHeartbeats 3200000 in
theorem field_w (g : Nat) (s : ByteArray) (st : WSt) (wd : List UInt8) (c : Nat) (w : World) (hz0 : s.size ≤ 4611686018427387904) (h : RAt g s st w) :
   Calls Tryd.prog 40 #[.pointer (some ⟨g, 0, none⟩), .string ⟨wd.toArray⟩, .int .i64 (c : Int)] w (REnd g s w (fldV (fieldRf wd c st).1) (fieldRf wd c st).2) := by
 have hgw := h.lt; have H := Lib.hid h; clear h; obtain ⟨HD, hHD⟩ : ∃ HD, headRf wd c st = HD := ⟨_, rfl⟩; unfold fieldRf; rw [hHD]; obtain ⟨⟨mn, a2⟩, st2⟩ := HD; simp only; obtain ⟨W5, hW5⟩ : ∃ W5, wordRf st2 = W5 := ⟨_, rfl⟩; rw [hW5]; obtain ⟨nm, st5⟩ := W5; simp only; obtain ⟨st7, hst7⟩ : ∃ x, needRf 61 st5 = x := ⟨_, rfl⟩; rw [hst7]; obtain ⟨W8, hW8⟩ : ∃ W8, numRf 536870911 st7 = W8 := ⟨_, rfl⟩; rw [hW8]; obtain ⟨no, st8⟩ := W8; simp only; obtain ⟨st10, hst10⟩ : ∃ x, needRf 59 st8 = x := ⟨_, rfl⟩; rw [hst10]; have HHD := Lib.hid hHD; have HW5 := Lib.hid hW5; have Hst7 := Lib.hid hst7; have HW8 := Lib.hid hW8; have Hst10 := Lib.hid hst10; clear hHD hW5 hst7 hW8 hst10
 go_enter Tryd.func40, Tryd.ntmps40
 go_upto_region 2 with (fail)
 have HF0 := Lib.hid (show RF g s w w.heap.size (w.heap.size + 1) 58 #[.string ⟨#[]⟩, .int .i64 0, .int .i64 0, .string ⟨#[]⟩, .bool false, .int .i64 0] #[.string ⟨#[]⟩, .int .i64 0, .int .i64 0, .string ⟨#[]⟩, .bool false, .int .i64 c] st ((w.alloc (.cells #[.string ⟨#[]⟩, .int .i64 0, .int .i64 0, .string ⟨#[]⟩, .bool false, .int .i64 0] 58)).alloc (.cells #[.string ⟨#[]⟩, .int .i64 0, .int .i64 0, .string ⟨#[]⟩, .bool false, .int .i64 c] 58)) from ⟨(H.out.up ((Up.refl w).alloc _)).up ((Up.refl _).alloc _), ((Gr.refl g w).alloc _).alloc _, blk_new (w.alloc _) _ (by simp), blk_old _ (blk_new w _ rfl)⟩); generalize (w.alloc (.cells #[.string ⟨#[]⟩, .int .i64 0, .int .i64 0, .string ⟨#[]⟩, .bool false, .int .i64 0] 58)).alloc (.cells #[.string ⟨#[]⟩, .int .i64 0, .int .i64 0, .string ⟨#[]⟩, .bool false, .int .i64 c] 58) = w0 at *; obtain ⟨R, hR⟩ : ∃ R, w.heap.size = R := ⟨_, rfl⟩; rw [hR] at HF0 hgw ⊢; have HR := Lib.hid hR; clear hR H; have Hs : Hid (∀ {cs : Array Value} {st : WSt} {wi : World}, RF g s w R (R + 1) 58 #[.string ⟨#[]⟩, .int .i64 0, .int .i64 0, .string ⟨#[]⟩, .bool false, .int .i64 0] cs st wi → ∀ (i : Nat) (u : Value), RF g s w R (R + 1) 58 #[.string ⟨#[]⟩, .int .i64 0, .int .i64 0, .string ⟨#[]⟩, .bool false, .int .i64 0] (cs.setIfInBounds i u) st (wi.setCell ⟨R + 1, i, none⟩ u)) := Lib.hid (fun h i u => h.set i u (by omega) (by omega) (by rw [HR.out]; omega))
 have hcs : (wd = wRepeated ∧ c = 0) ∨ (wd = wRepeated ∧ c ≠ 0) ∨ wd ≠ wRepeated := by
   by_cases hm : wd = wRepeated
   · by_cases hc : c = 0
     · exact .inl ⟨hm, hc⟩
     · exact .inr (.inl ⟨hm, hc⟩)
   · exact .inr (.inr hm)
 have hhd := HHD.out; unfold headRf at hhd; rcases hcs with ⟨hm, hc⟩ | ⟨hm, hc⟩ | hm
 case' inl =>
   rw [if_pos ⟨hm, hc⟩] at hhd; simp only [Prod.mk.injEq] at hhd; obtain ⟨⟨hmn, ha2⟩, hst2⟩ := hhd; (have e1 : (wd == [114, 101, 112, 101, 97, 116, 101, 100]) = true := by rw [hm]; rfl); (have e2 : ((c : Int) == 0) = true := by rw [hc]; rfl); have c4 := cell_of_row w0 (R + 1) 4 _ _ _ HF0.out.f; have hfr := fun o => frozen_of_row w0 (R + 1) o _ _ HF0.out.f; have hzz := lt_of_block HF0.out.f; have Ha2 := Lib.hid ha2; have Hst2 := Lib.hid hst2; have Hmn := Lib.hid hmn; clear hm hc ha2 hst2 hmn
   go_upto_region 4 with (fail)
   have HF2 : Hid (RF g s w R (R + 1) 58 #[.string ⟨#[]⟩, .int .i64 0, .int .i64 0, .string ⟨#[]⟩, .bool false, .int .i64 0] #[.string ⟨#[]⟩, .int .i64 0, .int .i64 0, .string ⟨#[]⟩, .bool true, .int .i64 c] st _) := Lib.hid (Hs.out HF0.out 4 (.bool true)); clear c4 hfr hzz; have hww := word_w g s st _ hz0 HF2.out.pw; rw [Ha2.out, Hst2.out] at hww; have Hww := Lib.hid hww; clear hww
   go_upto_region 5 with (go_at_call 21; go_must (refine Hww.out.mono ?_; rintro e w3 ⟨rfl, ha3, hg3⟩))
   have HF2 : Hid (RF g s w R (R + 1) 58 #[.string ⟨#[]⟩, .int .i64 0, .int .i64 0, .string ⟨#[]⟩, .bool false, .int .i64 0] #[.string ⟨#[]⟩, .int .i64 0, .int .i64 0, .string ⟨#[]⟩, .bool mn, .int .i64 c] st2 w3) := Lib.hid (by rw [← Hmn.out]; exact HF2.out.step hg3 ha3 (by omega) (by omega)); clear ha3 hg3 Hww
 case' inr.inl =>
   rw [if_neg (fun h => hc h.2)] at hhd; simp only [Prod.mk.injEq] at hhd; obtain ⟨⟨hmn, rfl⟩, rfl⟩ := hhd; (have e1 : (wd == [114, 101, 112, 101, 97, 116, 101, 100]) = true := by rw [hm]; rfl); (have e2 : ((c : Int) == 0) = false := by rw [beq_eq_false_iff_ne]; omega); have HF2 : Hid (RF g s w R (R + 1) 58 #[.string ⟨#[]⟩, .int .i64 0, .int .i64 0, .string ⟨#[]⟩, .bool false, .int .i64 0] #[.string ⟨#[]⟩, .int .i64 0, .int .i64 0, .string ⟨#[]⟩, .bool mn, .int .i64 c] st w0) := Lib.hid (by rw [← hmn]; exact HF0.out); clear hm hc hmn
   go_upto_region 5 with (fail)
   obtain ⟨w3, rfl⟩ : ∃ w3, w3 = w0 := ⟨_, rfl⟩; obtain ⟨a2, rfl⟩ : ∃ a2, a2 = wd := ⟨_, rfl⟩; obtain ⟨st2, rfl⟩ : ∃ st2, st2 = st := ⟨_, rfl⟩
 case' inr.inr =>
   rw [if_neg (fun h => hm h.1)] at hhd; simp only [Prod.mk.injEq] at hhd; obtain ⟨⟨hmn, rfl⟩, rfl⟩ := hhd; (have e1 : (wd == [114, 101, 112, 101, 97, 116, 101, 100]) = false := by rw [beq_eq_false_iff_ne]; exact hm); have HF2 : Hid (RF g s w R (R + 1) 58 #[.string ⟨#[]⟩, .int .i64 0, .int .i64 0, .string ⟨#[]⟩, .bool false, .int .i64 0] #[.string ⟨#[]⟩, .int .i64 0, .int .i64 0, .string ⟨#[]⟩, .bool mn, .int .i64 c] st w0) := Lib.hid (by rw [← hmn]; exact HF0.out); clear hm hmn
   go_upto_region 5 with (fail)
   obtain ⟨w3, rfl⟩ : ∃ w3, w3 = w0 := ⟨_, rfl⟩; obtain ⟨a2, rfl⟩ : ∃ a2, a2 = wd := ⟨_, rfl⟩; obtain ⟨st2, rfl⟩ : ∃ st2, st2 = st := ⟨_, rfl⟩
 all_goals
   clear HF0; have c2 := cell_of_row w3 (R + 1) 2 _ _ _ HF2.out.f; have c3 := cell_of_row w3 (R + 1) 3 _ _ _ HF2.out.f; have hfr := fun o => frozen_of_row w3 (R + 1) o _ _ HF2.out.f; have hzz := lt_of_block HF2.out.f
   go_upto_region 6 with (fail)
   have HF4 := Lib.hid (Hs.out (Hs.out HF2.out 2 (.int .i64 10)) 3 (.string ⟨a2.toArray⟩)); clear c2 c3 hfr hzz HF2; generalize (w3.setCell ⟨R + 1, 2, none⟩ (.int .i64 10)).setCell ⟨R + 1, 3, none⟩ (.string ⟨a2.toArray⟩) = w4 at *; have HF5 := Lib.hid (HF4.out.up ((Up.refl w4).alloc (.cells wordsV.toArray 9))); have HWB := Lib.hid (blk_new w4 (.cells wordsV.toArray 9) (g := w4.heap.size) rfl); have hBF := lt_of_block HF4.out.f; obtain ⟨B, hB⟩ : ∃ B, w4.heap.size = B := ⟨_, rfl⟩; (have hgB : g < B := by have := HF4.out.pw.lt; omega); (go_wp2_with (go_at_call 12; go_must (refine (words_r w4).mono ?_; rintro e w5 ⟨rfl, rfl⟩))); rw [hB] at HWB hBF; generalize w4.alloc (.cells wordsV.toArray 9) = w5 at *; clear HF4 hB; (go_loopw [26] (fun i wr => ∃ k : Nat, k ≤ 9 ∧ i = .int .i64 k ∧ wr.heap[B]? = some (.cells wordsV.toArray 9 (0, 0)) ∧ RF g s w R (R + 1) 58 #[.string ⟨#[]⟩, .int .i64 0, .int .i64 0, .string ⟨#[]⟩, .bool false, .int .i64 0] #[.string ⟨#[]⟩, .int .i64 0, .int .i64 (kindT k a2).1, .string ⟨(kindT k a2).2.toArray⟩, .bool mn, .int .i64 c] st2 wr) (fun i _ => 9 - (intOf i).toNat)); case atStart => exact ⟨0, by omega, rfl, HWB.out, HF5.out⟩
   case round =>
     clear HF5 HWB; obtain ⟨k, hk, rfl, hwb, hrf⟩ := hrel; have Hwb := Lib.hid hwb; have Hrf := Lib.hid hrf; clear hwb hrf
     by_cases hlt : k < 9
     · have hkw : k < words.length := hlt
       have n0 : wr.cell? ⟨B, k, none⟩ = some (.string ⟨(words[k]'hkw).toArray⟩) := by
         rw [cell_of_row wr B k _ _ _ Hwb.out]; simp [wordsV, hkw]
       (have k0 : (0 : Int) ≤ (k : Int) := by omega); (have k1 : (k : Int) < 9 := by omega); have c2 := cell_of_row wr (R + 1) 2 _ _ _ Hrf.out.f; have c3 := cell_of_row wr (R + 1) 3 _ _ _ Hrf.out.f; have hfr := fun o => frozen_of_row wr (R + 1) o _ _ Hrf.out.f; have hzz := lt_of_block Hrf.out.f; have hyes := kindT_yes ⟨k, hlt⟩; have hno := fun h => kindT_no (w := a2) hkw h; simp only at hyes; have Hno := Lib.hid hno; have Hyes := Lib.hid hyes; clear hno hyes; generalize words[k] = x at *
       by_cases hx : x = a2
       · (have e : (x == a2) = true := by rw [hx]; simp); have hy := Hyes.out; rw [hx] at hy; have Hy := Lib.hid hy; clear hx hy; go_wp2_with fail
         go_roundw
         (case rel => exact ⟨k + 1, by omega, by go_num, (Below.heap_setCell _ ⟨R + 1, 3, none⟩ _ B (by show B ≠ R + 1; omega)).trans ((Below.heap_setCell _ ⟨R + 1, 2, none⟩ _ B (by show B ≠ R + 1; omega)).trans Hwb.out), by rw [Hy.out]; exact Hs.out (Hs.out Hrf.out 2 (.int .i64 ((k : Int) + 1))) 3 (.string ⟨#[]⟩)⟩); case measure => simp [intOf]; omega
       · (have e : (x == a2) = false := by simpa using hx); (have e' : (a2 == x) = false := by simpa using fun h => hx h.symm); have hy := Hno.out e'; have Hy := Lib.hid hy; clear hx hy c2 c3 e'; go_wp2_with fail
         go_roundw
         (case rel => exact ⟨k + 1, by omega, by go_num, Hwb.out, by rw [Hy.out]; exact Hrf.out⟩); case measure => simp [intOf]; omega
     · (have hk9 : k = 9 := by omega); subst hk9; have hrf := Hrf.out; rw [kindT_all] at hrf; have HF6 := Lib.hid hrf; clear hrf Hrf Hwb; generalize kindP a2 = KP at *; have hww := word_w g s st2 wr hz0 HF6.out.pw; rw [HW5.out] at hww; have Hww := Lib.hid hww; clear hww
       go_upto_region 12 with (fail)
       have hfr := fun o => frozen_of_row wr (R + 1) o _ _ HF6.out.f; (go_wp2_with fail); refine Hww.out.mono ?_; rintro e w6 ⟨rfl, ha6, hg6⟩; have HF7 := Lib.hid (HF6.out.step hg6 ha6 (by omega) (by omega)); have c0 := cell_of_row w6 (R + 1) 0 _ _ _ HF7.out.f; have hfr := fun o => frozen_of_row w6 (R + 1) o _ _ HF7.out.f; have hzz := lt_of_block HF7.out.f; clear ha6 hg6 Hww HF6
       go_upto_region 13 with (fail)
       have HF8 := Lib.hid (Hs.out HF7.out 0 (.string ⟨nm.toArray⟩)); clear c0 hfr hzz HF7; generalize w6.setCell ⟨R + 1, 0, none⟩ (.string ⟨nm.toArray⟩) = w7 at *; have hnn := need_w g s st5 61 w7 hz0 HF8.out.pw; rw [Hst7.out] at hnn; have Hnn := Lib.hid hnn; clear hnn
       go_upto_region 14 with (go_at_call 37; go_must (refine Hnn.out.mono ?_; rintro e w8 ⟨rfl, ha8, hg8⟩))
       have HF9 := Lib.hid (HF8.out.step hg8 ha8 (by omega) (by omega)); clear ha8 hg8 Hnn HF8; have hnu := num_w g s st7 536870911 w8 hz0 (by omega) HF9.out.pw; rw [HW8.out] at hnu; have Hnu := Lib.hid hnu; clear hnu; (go_wp2_with fail); refine Hnu.out.mono ?_; rintro e w9 ⟨rfl, ha9, hg9⟩; have HF10 := Lib.hid (HF9.out.step hg9 ha9 (by omega) (by omega)); have c1 := cell_of_row w9 (R + 1) 1 _ _ _ HF10.out.f; have hfr := fun o => frozen_of_row w9 (R + 1) o _ _ HF10.out.f; have hzz := lt_of_block HF10.out.f; clear ha9 hg9 Hnu HF9
       go_upto_region 15 with (fail)
       have HF11 := Lib.hid (Hs.out HF10.out 1 (.int .i64 (no : Int))); clear c1 hfr hzz HF10; generalize w9.setCell ⟨R + 1, 1, none⟩ (.int .i64 (no : Int)) = w10 at *; have hnn := need_w g s st8 59 w10 hz0 HF11.out.pw; rw [Hst10.out] at hnn; have Hnn := Lib.hid hnn; clear hnn
       go_upto_region 16 with (go_at_call 37; go_must (refine Hnn.out.mono ?_; rintro e w11 ⟨rfl, ha11, hg11⟩))
       have HF12 : Hid (RF g s w R (R + 1) 58 #[.string ⟨#[]⟩, .int .i64 0, .int .i64 0, .string ⟨#[]⟩, .bool false, .int .i64 0] #[.string ⟨nm.toArray⟩, .int .i64 (no : Int), .int .i64 KP.1, .string ⟨KP.2.toArray⟩, .bool mn, .int .i64 c] st10 w11) := Lib.hid (HF11.out.step hg11 ha11 (by omega) (by omega)); clear ha11 hg11 Hnn HF11; have c0 := cell_of_row w11 (R + 1) 0 _ _ _ HF12.out.f; have c1 := cell_of_row w11 (R + 1) 1 _ _ _ HF12.out.f; have c2 := cell_of_row w11 (R + 1) 2 _ _ _ HF12.out.f; have c3 := cell_of_row w11 (R + 1) 3 _ _ _ HF12.out.f; have c4 := cell_of_row w11 (R + 1) 4 _ _ _ HF12.out.f; have c5 := cell_of_row w11 (R + 1) 5 _ _ _ HF12.out.f; have hfr := fun o => frozen_of_row w11 (R + 1) o _ _ HF12.out.f; have hzz := lt_of_block HF12.out.f; have hgR := HF12.out.r; have z0 := cell_of_row w11 R 0 _ _ _ hgR; have z1 := cell_of_row w11 R 1 _ _ _ hgR; have z2 := cell_of_row w11 R 2 _ _ _ hgR; have z3 := cell_of_row w11 R 3 _ _ _ hgR; have z4 := cell_of_row w11 R 4 _ _ _ hgR; have z5 := cell_of_row w11 R 5 _ _ _ hgR; have zf := fun o => frozen_of_row w11 R o _ _ hgR; have zz := lt_of_block hgR; (go_wp2_with fail); refine bodyPost_ret (v := fldV ⟨nm, no, KP.1, KP.2, mn, c⟩) (by simp [results, Tryd.results40, go_sem, z0, z1, z2, z3, z4, z5, fldV, fldC]) rfl ?_; refine ⟨rfl, ?_, ?_⟩
       · (repeat (first | (with_reducible exact HF12.out.pw) | (with_reducible refine RAt.other ?_ ?_ _))); all_goals (simp only; omega)
       · (repeat (first | (with_reducible exact HF12.out.gr) | (with_reducible refine Gr.setNew ?_ ?_ _))); all_goals (simp only; rw [HR.out]; omega)
end Go.Proofs.YtbceapeoknngnaaDoor
