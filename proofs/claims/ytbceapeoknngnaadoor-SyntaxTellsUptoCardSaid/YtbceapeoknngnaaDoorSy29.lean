/-
  The document's parser: word.
-/
import Derived.Test.YtbceapeoknngnaaDoorSy28
import Derived.Test.YtbceapeoknngnaaDoorSy14
import Derived.Deep.DeepCutAuto
set_option linter.unusedVariables false
namespace Go.Proofs.YtbceapeoknngnaaDoor
open Go.RowKit
set_option maxRecDepth 100000
open Lib (hid)
set_option maxHeartbeats 3200000 in
theorem word_w (g : Nat) (s : ByteArray) (st : WSt) (w : World) (hz0 : s.size ≤ 4611686018427387904) (h : RAt g s st w) :
   Calls Tryd.prog 21 #[.pointer (some ⟨g, 0, none⟩)] w (REnd g s w (.string ⟨(wordRf st).1.toArray⟩) (wordRf st).2) := by
 have Hok := hid (ok_w g s st w h); have Hsk := hid (skip_w g s st w hz0 h); have H := hid h; clear h
 by_cases he : st.e = 0
 rotate_left
 · (have hb : (st.e == 0) = false := by simpa using he); rw [word_noRf he]; clear he
   go_enter Tryd.func21, Tryd.ntmps21
   go_wp2_with (go_at_call 20; go_must (refine Hok.out.mono ?_; rintro e w1 ⟨rfl, rfl⟩))
   go_ret
   exact ⟨rfl, H.out, Gr.refl _ _⟩
 (have hb : (st.e == 0) = true := by simpa using he); have He := hid he; obtain ⟨WD, hWD⟩ : ∃ WD, wordRf st = WD := ⟨_, rfl⟩; rw [hWD]
 have hwd : (if candP (skip st.l) = [] then ([], stopRf 2 (blankRf st)) else if 16 < (candP (skip st.l)).length then (candP (skip st.l), stopRf 7 (blankRf st)) else (candP (skip st.l), ⟨(skip st.l).drop (candP (skip st.l)).length, st.e, st.b⟩)) = WD := by
   rw [← hWD]; unfold wordRf; exact (if_neg (by simpa using he)).symm
 have Hwd := hid hwd; clear he hWD hwd
 go_enter Tryd.func21, Tryd.ntmps21
 go_upto_region 4 with (first | (go_at_call 20; go_must (refine Hok.out.mono ?_; rintro e w1 ⟨rfl, rfl⟩)) | (go_at_call 19; go_must (refine Hsk.out.mono ?_; rintro e w2 ⟨rfl, ⟨a, ha, hd, hp⟩, hg⟩)))
 have hd : dr s a = skip st.l := hd; have h1 := hp.c1; have hz := hp.lt; have Hp := hid hp; have Hg := hid hg; have Hd := hid hd; have Hat0 := hid (show RAt g s (blankRf st) w2 from ⟨a, ha, hd, hp⟩); clear hp hg hd Hsk Hok H; (go_wp2_with fail); clear h1; (go_loopw [3] (fun t wr => ∃ i : Nat, a + i ≤ s.size ∧ t = .int .i64 ((a + i : Nat) : Int) ∧ wr = w2 ∧ ∀ j (hj : j < (dr s a).length), j < i → partN j (dr s a)[j].toNat = true) (fun t _ => s.size - (intOf t).toNat)); case atStart => exact ⟨0, by omega, by simp, rfl, fun j _ h => absurd h (by omega)⟩
 case round =>
   obtain ⟨i, hi, rfl, rfl, hq⟩ := hrel; have h0 := Hp.out.c0; have h1 := Hp.out.c1; have hz := Hp.out.lt; have Hq := hid hq; clear hq; obtain ⟨k, hk⟩ : ∃ k, k = a + i := ⟨_, rfl⟩; rw [← hk] at hi ⊢; have Hk := hid hk; clear hk; have hlen : (dr s a).length = s.size - a := dr_len s a; have Hlen := hid hlen; clear hlen
   by_cases hlt : k < s.size
   · have j1 : decide ((k : Int) < (s.size : Int)) = true := decide_eq_true (by omega); have i1 : (k : Int) < (s.size : Int) := by omega
     have Hx := hid (show (dr s a)[i]? = some s[k] from by
       have hki := Hk.out; subst hki; exact dr_at hlt)
     obtain ⟨c, hc⟩ : ∃ c, c = s[k].toNat := ⟨_, rfl⟩; have Hc := hid hc; replace hc := hc.symm; have Hm := hid (fun w => more_any c w); have Hl := hid (fun w => letter_any c w); have Hml := hid (more_of_letter (c := c))
     have hcs : (i = 0 ∧ letterN c = true ∧ moreN c = true) ∨ (i = 0 ∧ letterN c = false ∧ moreN c = true) ∨ (i = 0 ∧ letterN c = false ∧ moreN c = false) ∨ (i ≠ 0 ∧ moreN c = true) ∨ (i ≠ 0 ∧ moreN c = false) := by
       have := Hml.out
       by_cases h0 : i = 0 <;> cases h1 : letterN c <;> cases h2 : moreN c <;> simp_all
     rcases hcs with ⟨hi0, hl0, hm0⟩ | ⟨hi0, hl0, hm0⟩ | ⟨hi0, hl0, hm0⟩ | ⟨hi0, hm0⟩ | ⟨hi0, hm0⟩
     · have Hpn := hid (show partN i s[k].toNat = true from by rw [← Hc.out, partN, if_pos hi0]; exact hl0); have d1 : decide ((a : Int) < (k : Int)) = false := decide_eq_false (by have := Hk.out; omega); (have d2 : ¬ (a : Int) < (k : Int) := by have := Hk.out; omega); clear hi0; go_wp2_with (first | (go_at_call 29; go_must (refine (Hm.out _).mono ?_; rintro e w3 ⟨rfl, rfl⟩; rw [hm0])) | (go_at_call 30; go_must (refine (Hl.out _).mono ?_; rintro e w3 ⟨rfl, rfl⟩; rw [hl0])))
       go_roundw
       case rel =>
         (refine ⟨i + 1, by have := Hk.out; omega, by have := Hk.out; go_num, by first | rfl | trivial, ?_⟩); have hki := Hk.out; subst hki; exact ext_part Hq.out Hx.out Hpn.out
       case measure => simp [intOf]; omega
     · have Hcand := hid (show candP (skip st.l) = (skip st.l).take i from by
         rw [← Hd.out]; exact cand_take (dr s a) i (by have := Hlen.out; have := Hk.out; omega) Hq.out (stop_part Hx.out (by rw [← Hc.out, partN, if_pos hi0]; exact hl0)))
       have d1 : decide ((a : Int) < (k : Int)) = false := decide_eq_false (by have := Hk.out; omega); (have d2 : ¬ (a : Int) < (k : Int) := by have := Hk.out; omega); clear hi0
       go_upto_region 7 with (first | (go_at_call 29; go_must (refine (Hm.out _).mono ?_; rintro e w3 ⟨rfl, rfl⟩; rw [hm0])) | (go_at_call 30; go_must (refine (Hl.out _).mono ?_; rintro e w3 ⟨rfl, rfl⟩; rw [hl0])))
       have hwd := Hwd.out; (have hcl : ((skip st.l).take i).length = i := by rw [List.length_take, ← Hd.out]; have := Hlen.out; have := Hk.out; omega); rw [Hcand.out, hcl] at hwd; have hsl2 := fun wx => sl_ab (s := s) (a := a) (k := k) (by have := Hk.out; omega) hi wx; (have hext : s.extract a k = ⟨((skip st.l).take i).toArray⟩ := by rw [ba_eq (dr_extract s a k), Hd.out, show k - a = i by have := Hk.out; omega]); rw [hext] at hsl2; have hf := Hp.out.fz 1; have h1 := Hp.out.c1; clear hext; generalize (skip st.l).take i = wd at *; have hsz : (⟨wd.toArray⟩ : ByteArray).size = wd.length := rfl
       by_cases hi0 : i = 0
       · have e0 : wd = [] := List.eq_nil_of_length_eq_zero (by omega); subst e0; rw [if_pos rfl] at hwd; subst hwd; clear hcl hsz hi0
         go_quiet (fail)
         go_wp2_with (go_at_call 24; go_must (refine (stop_w g s (blankRf st) 2 _ (by decide) (Hat0.out.up (Up.drewN (Up.refl _) _))).mono ?_; rintro e w8 ⟨rfl, ha8, hg8⟩))
         go_ret
         exact ⟨rfl, ha8, ((Hg.out.drewN _).trans hg8)⟩
       · (have e0 : ¬ wd = [] := fun h => by rw [h] at hcl; simp at hcl; omega); rw [if_neg e0] at hwd; have e2 : wd.isEmpty = false := by cases wd with | nil => exact absurd rfl e0 | cons _ _ => rfl
         by_cases hbig : 16 < i
         · rw [if_pos hbig] at hwd; (have d5 : (16 : Int) < ((⟨wd.toArray⟩ : ByteArray).size : Int) := by rw [hsz]; omega); (have d6 : (16 : Int) < (wd.length : Int) := by omega); subst hwd; clear hcl e0
           go_quiet (fail)
           go_wp2_with (go_at_call 24; go_must (refine (stop_w g s (blankRf st) 7 _ (by decide) (Hat0.out.up (Up.drewN (Up.refl _) _))).mono ?_; rintro e w8 ⟨rfl, ha8, hg8⟩))
           go_ret
           exact ⟨rfl, ha8, ((Hg.out.drewN _).trans hg8)⟩
         · rw [if_neg hbig] at hwd; (have d5 : ¬ (16 : Int) < ((⟨wd.toArray⟩ : ByteArray).size : Int) := by rw [hsz]; omega); (have d6 : ¬ (16 : Int) < (wd.length : Int) := by omega); subst hwd; clear hcl e0
           go_quiet (fail)
           go_wp2_with fail
           go_ret
           refine ⟨rfl, ⟨k, hi, ?_, (Hp.out.drewN _).set1 k (by rfl)⟩, (Hg.out.drewN _).set _ _⟩; show dr s k = (skip st.l).drop i; rw [← Hd.out, dr_drop, Hk.out]
     · have Hcand := hid (show candP (skip st.l) = (skip st.l).take i from by
         rw [← Hd.out]; exact cand_take (dr s a) i (by have := Hlen.out; have := Hk.out; omega) Hq.out (stop_part Hx.out (by rw [← Hc.out, partN, if_pos hi0]; exact hl0)))
       clear hi0
       go_upto_region 7 with (first | (go_at_call 29; go_must (refine (Hm.out _).mono ?_; rintro e w3 ⟨rfl, rfl⟩; rw [hm0])) | (go_at_call 30; go_must (refine (Hl.out _).mono ?_; rintro e w3 ⟨rfl, rfl⟩; rw [hl0])))
       have hwd := Hwd.out; (have hcl : ((skip st.l).take i).length = i := by rw [List.length_take, ← Hd.out]; have := Hlen.out; have := Hk.out; omega); rw [Hcand.out, hcl] at hwd; have hsl2 := fun wx => sl_ab (s := s) (a := a) (k := k) (by have := Hk.out; omega) hi wx; (have hext : s.extract a k = ⟨((skip st.l).take i).toArray⟩ := by rw [ba_eq (dr_extract s a k), Hd.out, show k - a = i by have := Hk.out; omega]); rw [hext] at hsl2; have hf := Hp.out.fz 1; have h1 := Hp.out.c1; clear hext; generalize (skip st.l).take i = wd at *; have hsz : (⟨wd.toArray⟩ : ByteArray).size = wd.length := rfl
       by_cases hi0 : i = 0
       · have e0 : wd = [] := List.eq_nil_of_length_eq_zero (by omega); subst e0; rw [if_pos rfl] at hwd; subst hwd; clear hcl hsz hi0
         go_quiet (fail)
         go_wp2_with (go_at_call 24; go_must (refine (stop_w g s (blankRf st) 2 _ (by decide) (Hat0.out.up (Up.drewN (Up.refl _) _))).mono ?_; rintro e w8 ⟨rfl, ha8, hg8⟩))
         go_ret
         exact ⟨rfl, ha8, ((Hg.out.drewN _).trans hg8)⟩
       · (have e0 : ¬ wd = [] := fun h => by rw [h] at hcl; simp at hcl; omega); rw [if_neg e0] at hwd; have e2 : wd.isEmpty = false := by cases wd with | nil => exact absurd rfl e0 | cons _ _ => rfl
         by_cases hbig : 16 < i
         · rw [if_pos hbig] at hwd; (have d5 : (16 : Int) < ((⟨wd.toArray⟩ : ByteArray).size : Int) := by rw [hsz]; omega); (have d6 : (16 : Int) < (wd.length : Int) := by omega); subst hwd; clear hcl e0
           go_quiet (fail)
           go_wp2_with (go_at_call 24; go_must (refine (stop_w g s (blankRf st) 7 _ (by decide) (Hat0.out.up (Up.drewN (Up.refl _) _))).mono ?_; rintro e w8 ⟨rfl, ha8, hg8⟩))
           go_ret
           exact ⟨rfl, ha8, ((Hg.out.drewN _).trans hg8)⟩
         · rw [if_neg hbig] at hwd; (have d5 : ¬ (16 : Int) < ((⟨wd.toArray⟩ : ByteArray).size : Int) := by rw [hsz]; omega); (have d6 : ¬ (16 : Int) < (wd.length : Int) := by omega); subst hwd; clear hcl e0
           go_quiet (fail)
           go_wp2_with fail
           go_ret
           refine ⟨rfl, ⟨k, hi, ?_, (Hp.out.drewN _).set1 k (by rfl)⟩, (Hg.out.drewN _).set _ _⟩; show dr s k = (skip st.l).drop i; rw [← Hd.out, dr_drop, Hk.out]
     · have Hpn := hid (show partN i s[k].toNat = true from by rw [← Hc.out, partN, if_neg hi0]; exact hm0); have d1 : decide ((a : Int) < (k : Int)) = true := decide_eq_true (by have := Hk.out; omega); (have d2 : (a : Int) < (k : Int) := by have := Hk.out; omega); clear hi0; go_wp2_with (first | (go_at_call 29; go_must (refine (Hm.out _).mono ?_; rintro e w3 ⟨rfl, rfl⟩; rw [hm0])))
       go_roundw
       case rel =>
         (refine ⟨i + 1, by have := Hk.out; omega, by have := Hk.out; go_num, by first | rfl | trivial, ?_⟩); have hki := Hk.out; subst hki; exact ext_part Hq.out Hx.out Hpn.out
       case measure => simp [intOf]; omega
     · have Hcand := hid (show candP (skip st.l) = (skip st.l).take i from by
         rw [← Hd.out]; exact cand_take (dr s a) i (by have := Hlen.out; have := Hk.out; omega) Hq.out (stop_part Hx.out (by rw [← Hc.out, partN, if_neg hi0]; exact hm0)))
       clear hi0
       go_upto_region 7 with (first | (go_at_call 29; go_must (refine (Hm.out _).mono ?_; rintro e w3 ⟨rfl, rfl⟩; rw [hm0])))
       have hwd := Hwd.out; (have hcl : ((skip st.l).take i).length = i := by rw [List.length_take, ← Hd.out]; have := Hlen.out; have := Hk.out; omega); rw [Hcand.out, hcl] at hwd; have hsl2 := fun wx => sl_ab (s := s) (a := a) (k := k) (by have := Hk.out; omega) hi wx; (have hext : s.extract a k = ⟨((skip st.l).take i).toArray⟩ := by rw [ba_eq (dr_extract s a k), Hd.out, show k - a = i by have := Hk.out; omega]); rw [hext] at hsl2; have hf := Hp.out.fz 1; have h1 := Hp.out.c1; clear hext; generalize (skip st.l).take i = wd at *; have hsz : (⟨wd.toArray⟩ : ByteArray).size = wd.length := rfl
       by_cases hi0 : i = 0
       · have e0 : wd = [] := List.eq_nil_of_length_eq_zero (by omega); subst e0; rw [if_pos rfl] at hwd; subst hwd; clear hcl hsz hi0
         go_quiet (fail)
         go_wp2_with (go_at_call 24; go_must (refine (stop_w g s (blankRf st) 2 _ (by decide) (Hat0.out.up (Up.drewN (Up.refl _) _))).mono ?_; rintro e w8 ⟨rfl, ha8, hg8⟩))
         go_ret
         exact ⟨rfl, ha8, ((Hg.out.drewN _).trans hg8)⟩
       · (have e0 : ¬ wd = [] := fun h => by rw [h] at hcl; simp at hcl; omega); rw [if_neg e0] at hwd; have e2 : wd.isEmpty = false := by cases wd with | nil => exact absurd rfl e0 | cons _ _ => rfl
         by_cases hbig : 16 < i
         · rw [if_pos hbig] at hwd; (have d5 : (16 : Int) < ((⟨wd.toArray⟩ : ByteArray).size : Int) := by rw [hsz]; omega); (have d6 : (16 : Int) < (wd.length : Int) := by omega); subst hwd; clear hcl e0
           go_quiet (fail)
           go_wp2_with (go_at_call 24; go_must (refine (stop_w g s (blankRf st) 7 _ (by decide) (Hat0.out.up (Up.drewN (Up.refl _) _))).mono ?_; rintro e w8 ⟨rfl, ha8, hg8⟩))
           go_ret
           exact ⟨rfl, ha8, ((Hg.out.drewN _).trans hg8)⟩
         · rw [if_neg hbig] at hwd; (have d5 : ¬ (16 : Int) < ((⟨wd.toArray⟩ : ByteArray).size : Int) := by rw [hsz]; omega); (have d6 : ¬ (16 : Int) < (wd.length : Int) := by omega); subst hwd; clear hcl e0
           go_quiet (fail)
           go_wp2_with fail
           go_ret
           refine ⟨rfl, ⟨k, hi, ?_, (Hp.out.drewN _).set1 k (by rfl)⟩, (Hg.out.drewN _).set _ _⟩; show dr s k = (skip st.l).drop i; rw [← Hd.out, dr_drop, Hk.out]
   · have j1 : decide ((k : Int) < (s.size : Int)) = false := decide_eq_false (by omega); have j2 : ¬ (k : Int) < (s.size : Int) := by omega
     have Hcand := hid (show candP (skip st.l) = (skip st.l).take i from by
       rw [← Hd.out]; exact cand_take (dr s a) i (by have := Hlen.out; have := Hk.out; omega) Hq.out (fun h => by have := Hlen.out; have := Hk.out; omega))
     go_upto_region 7 with (fail)
     have hwd := Hwd.out; (have hcl : ((skip st.l).take i).length = i := by rw [List.length_take, ← Hd.out]; have := Hlen.out; have := Hk.out; omega); rw [Hcand.out, hcl] at hwd; have hsl2 := fun wx => sl_ab (s := s) (a := a) (k := k) (by have := Hk.out; omega) hi wx; (have hext : s.extract a k = ⟨((skip st.l).take i).toArray⟩ := by rw [ba_eq (dr_extract s a k), Hd.out, show k - a = i by have := Hk.out; omega]); rw [hext] at hsl2; have hf := Hp.out.fz 1; have h1 := Hp.out.c1; clear hext; generalize (skip st.l).take i = wd at *; have hsz : (⟨wd.toArray⟩ : ByteArray).size = wd.length := rfl
     by_cases hi0 : i = 0
     · have e0 : wd = [] := List.eq_nil_of_length_eq_zero (by omega); subst e0; rw [if_pos rfl] at hwd; subst hwd; clear hcl hsz hi0
       go_quiet (fail)
       go_wp2_with (go_at_call 24; go_must (refine (stop_w g s (blankRf st) 2 _ (by decide) (Hat0.out.up (Up.drewN (Up.refl _) _))).mono ?_; rintro e w8 ⟨rfl, ha8, hg8⟩))
       go_ret
       exact ⟨rfl, ha8, ((Hg.out.drewN _).trans hg8)⟩
     · (have e0 : ¬ wd = [] := fun h => by rw [h] at hcl; simp at hcl; omega); rw [if_neg e0] at hwd; have e2 : wd.isEmpty = false := by cases wd with | nil => exact absurd rfl e0 | cons _ _ => rfl
       by_cases hbig : 16 < i
       · rw [if_pos hbig] at hwd; (have d5 : (16 : Int) < ((⟨wd.toArray⟩ : ByteArray).size : Int) := by rw [hsz]; omega); (have d6 : (16 : Int) < (wd.length : Int) := by omega); subst hwd; clear hcl e0
         go_quiet (fail)
         go_wp2_with (go_at_call 24; go_must (refine (stop_w g s (blankRf st) 7 _ (by decide) (Hat0.out.up (Up.drewN (Up.refl _) _))).mono ?_; rintro e w8 ⟨rfl, ha8, hg8⟩))
         go_ret
         exact ⟨rfl, ha8, ((Hg.out.drewN _).trans hg8)⟩
       · rw [if_neg hbig] at hwd; (have d5 : ¬ (16 : Int) < ((⟨wd.toArray⟩ : ByteArray).size : Int) := by rw [hsz]; omega); (have d6 : ¬ (16 : Int) < (wd.length : Int) := by omega); subst hwd; clear hcl e0
         go_quiet (fail)
         go_wp2_with fail
         go_ret
         refine ⟨rfl, ⟨k, hi, ?_, (Hp.out.drewN _).set1 k (by rfl)⟩, (Hg.out.drewN _).set _ _⟩; show dr s k = (skip st.l).drop i; rw [← Hd.out, dr_drop, Hk.out]
end Go.Proofs.YtbceapeoknngnaaDoor
