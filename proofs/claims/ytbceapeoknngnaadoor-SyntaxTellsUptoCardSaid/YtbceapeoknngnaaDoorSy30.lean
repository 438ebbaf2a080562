/-
  The document's parser: num.
-/
import Derived.Test.YtbceapeoknngnaaDoorSy28
import Derived.Test.YtbceapeoknngnaaDoorSy17
import Derived.Deep.DeepCutAuto
set_option linter.unusedVariables false
namespace Go.Proofs.YtbceapeoknngnaaDoor
open Go.RowKit
set_option maxRecDepth 100000
open Lib (hid)
theorem cap_snoc (d : List UInt8) (c : UInt8) : capV (d ++ [c]) = if capV d < 10000000000 then 10 * capV d + (c.toNat - 48) else capV d := by
 unfold capV; rw [List.foldl_append]; rfl
set_option maxHeartbeats 3200000 in
theorem num_w (g : Nat) (s : ByteArray) (st : WSt) (most : Nat) (w : World) (hz0 : s.size ≤ 4611686018427387904) (hm : most ≤ 9223372036854775807) (h : RAt g s st w) :
   Calls Tryd.prog 39 #[.pointer (some ⟨g, 0, none⟩), .int .i64 (most : Int)] w (REnd g s w (.int .i64 ((numRf most st).1 : Int)) (numRf most st).2) := by
 have Hok := hid (ok_w g s st w h); have Hsk := hid (skip_w g s st w hz0 h); have H := hid h; clear h
 by_cases he : st.e = 0
 rotate_left
 · (have hb : (st.e == 0) = false := by simpa using he); rw [num_noRf he]; clear he
   go_enter Tryd.func39, Tryd.ntmps39
   go_wp2_with (go_at_call 20; go_must (refine Hok.out.mono ?_; rintro e w1 ⟨rfl, rfl⟩))
   go_ret
   exact ⟨rfl, H.out, Gr.refl _ _⟩
 (have hb : (st.e == 0) = true := by simpa using he); obtain ⟨WD, hWD⟩ : ∃ WD, numRf most st = WD := ⟨_, rfl⟩; rw [hWD]
 have hwd : (if (skip st.l).takeWhile digitB = [] then (capV ((skip st.l).takeWhile digitB), stopRf 2 (blankRf st)) else if most < capV ((skip st.l).takeWhile digitB) ∨ (skip st.l).head? = some 48 ∧ 1 < ((skip st.l).takeWhile digitB).length then (capV ((skip st.l).takeWhile digitB), stopRf 3 (blankRf st)) else (capV ((skip st.l).takeWhile digitB), ⟨(skip st.l).drop ((skip st.l).takeWhile digitB).length, st.e, st.b⟩)) = WD := by
   rw [← hWD]; unfold numRf; exact (if_neg (by simpa using he)).symm
 have Hwd := hid hwd; clear he hWD hwd
 go_enter Tryd.func39, Tryd.ntmps39
 go_upto_region 4 with (first | (go_at_call 20; go_must (refine Hok.out.mono ?_; rintro e w1 ⟨rfl, rfl⟩)) | (go_at_call 19; go_must (refine Hsk.out.mono ?_; rintro e w2 ⟨rfl, ⟨a, ha, hd, hp⟩, hg⟩)))
 have hd : dr s a = skip st.l := hd; have h1 := hp.c1; have hz := hp.lt; have Hp0 := hid hp; have Hg0 := hid hg; have Hd := hid hd; clear hp hg hd Hsk Hok H
 go_quiet (fail)
 (go_wp2_with fail); clear h1 hz; (go_loopw [5, 6] (fun u t wr => ∃ i : Nat, a + i ≤ s.size ∧ t = .int .i64 ((a + i : Nat) : Int) ∧ u = .int .i64 (capV ((dr s a).take i) : Int) ∧ RW g s a (blankRf st).e (baOf s (blankRf st)) wr ∧ Gr g w1 wr ∧ ∀ j (hj : j < (dr s a).length), j < i → digitB (dr s a)[j] = true) (fun _ t _ => s.size - (intOf t).toNat)); case atStart => exact ⟨0, by omega, by simp, rfl, Hp0.out.drewN _, Hg0.out.drewN _, fun j _ h => absurd h (by omega)⟩
 case round =>
   obtain ⟨i, hi, rfl, rfl, hp, hg, hq⟩ := hrel; clear Hp0 Hg0; have h0 := hp.c0; have hz := hp.lt; have Hq := hid hq; have Hp := hid hp; have Hg := hid hg; have Hat0 := hid (show RAt g s (blankRf st) wr from ⟨a, ha, Hd.out, hp⟩); clear hq hp hg; obtain ⟨k, hk⟩ : ∃ k, k = a + i := ⟨_, rfl⟩; rw [← hk] at hi ⊢; have Hk := hid hk; clear hk; obtain ⟨N, hN⟩ : ∃ N, capV ((dr s a).take i) = N := ⟨_, rfl⟩; (have hNb : N < 100000000300 := by rw [← hN]; exact cap_lt _); rw [hN]; have HN := hid hN; clear hN; have hlen : (dr s a).length = s.size - a := dr_len s a; have Hlen := hid hlen; clear hlen
   by_cases hlt : k < s.size
   · have j1 : decide ((k : Int) < (s.size : Int)) = true := decide_eq_true (by omega); have i1 : (k : Int) < (s.size : Int) := by omega
     have Hx := hid (show (dr s a)[i]? = some s[k] from by
       have hki := Hk.out; subst hki; exact dr_at hlt)
     have Hdg := hid (show digitB s[k] = decide (48 ≤ s[k].toNat ∧ s[k].toNat ≤ 57) from rfl)
     have hsn : capV ((dr s a).take (i + 1)) = if N < 10000000000 then 10 * N + (s[k].toNat - 48) else N := by
       (have hil : i < (dr s a).length := by have := Hlen.out; have := Hk.out; omega); have hxx := Hx.out; rw [List.getElem?_eq_getElem hil] at hxx; rw [List.take_succ_eq_append_getElem hil, cap_snoc, HN.out, Option.some.inj hxx]
     obtain ⟨c, hc⟩ : ∃ c, c = s[k].toNat := ⟨_, rfl⟩; rw [← hc] at Hdg hsn; have Hsn := hid hsn; replace hc := hc.symm; clear hsn; (have hcs : (48 ≤ c ∧ c ≤ 57) ∨ c < 48 ∨ (48 ≤ c ∧ 57 < c) := by omega); rcases hcs with ⟨q1, q2⟩ | q1 | ⟨q1, q2⟩
     · have Hdt := hid (show digitB s[k] = true by rw [Hdg.out, decide_eq_true_iff]; exact ⟨q1, q2⟩); (have p1 : (48 : Int) ≤ (c : Int) := by omega); have p2 : (c : Int) ≤ 57 := by omega
       by_cases hbig : N < 10000000000
       · (have p3 : (N : Int) < 10000000000 := by omega); have hsn := Hsn.out; rw [if_pos hbig] at hsn; have Hsn2 := hid hsn; clear hsn; go_wp2_with fail
         go_roundw
         case rel =>
           (refine ⟨i + 1, by have := Hk.out; omega, by have := Hk.out; go_num, by rw [Hsn2.out]; go_num, Hp.out, Hg.out, ?_⟩); exact dig_ext Hq.out Hx.out Hdt.out
         case measure => simp [intOf]; omega
       · (have p3 : ¬ (N : Int) < 10000000000 := by omega); have hsn := Hsn.out; rw [if_neg hbig] at hsn; have Hsn2 := hid hsn; clear hsn; go_wp2_with fail
         go_roundw
         case rel =>
           (refine ⟨i + 1, by have := Hk.out; omega, by have := Hk.out; go_num, by rw [Hsn2.out], Hp.out, Hg.out, ?_⟩); exact dig_ext Hq.out Hx.out Hdt.out
         case measure => simp [intOf]; omega
     · have p1 : ¬ (48 : Int) ≤ (c : Int) := by omega
       have Hcand := hid (show (skip st.l).takeWhile digitB = (skip st.l).take i from by
         rw [← Hd.out]; exact dig_take (dr s a) i (by have := Hlen.out; have := Hk.out; omega) Hq.out (dig_stop Hx.out (by rw [Hdg.out, decide_eq_false_iff_not]; omega)))
       have hwd := Hwd.out; (have hcl : ((skip st.l).take i).length = i := by rw [List.length_take, ← Hd.out]; have := Hlen.out; have := Hk.out; omega); rw [Hcand.out, hcl] at hwd; have hf := Hp.out.fz 1; have h1 := Hp.out.c1; (have hN2 : capV ((skip st.l).take i) = N := by rw [← Hd.out]; exact HN.out); rw [hN2] at hwd
       by_cases hi0 : i = 0
       · (have e0 : ((skip st.l).take i) = [] := by rw [hi0]; rfl); rw [if_pos e0] at hwd; subst hwd; (have e9 : ((k : Int) == (a : Int)) = true := by rw [beq_iff_eq]; have := Hk.out; omega); clear hcl hi0 e0 hN2; go_wp2_with (go_at_call 24; go_must (refine (stop_w g s (blankRf st) 2 _ (by decide) Hat0.out).mono ?_; rintro e w8 ⟨rfl, ha8, hg8⟩))
         go_ret
         exact ⟨rfl, ha8, (Hg.out.trans hg8)⟩
       · (have e0 : ¬ ((skip st.l).take i) = [] := fun h => by rw [h] at hcl; simp at hcl; omega); rw [if_neg e0] at hwd; (have e9 : ((k : Int) == (a : Int)) = false := by rw [beq_eq_false_iff_ne]; have := Hk.out; omega); (have ha1 : a < s.size := by have := Hk.out; omega); (have ia1 : (a : Int) < (s.size : Int) := by omega); (have hh : (skip st.l).head? = some s[a] := by rw [← Hd.out, dr_cons ha1]; rfl); rw [hh] at hwd; obtain ⟨ca, hca⟩ : ∃ ca, ca = s[a].toNat := ⟨_, rfl⟩; have Hca := hid hca; replace hca := hca.symm; (have e6 : IntKind.i64.wrap ((k : Int) - (a : Int)) = (k : Int) - (a : Int) := by rw [IntKind.wrap_i64]; omega); have Hi0 := hid hi0; clear hcl e0 hN2 hh hi0
         have h48 : (some s[a] = some (48 : UInt8)) ↔ ca = 48 := by
           rw [Hca.out]; constructor
           · intro h; rw [Option.some.inj h]; rfl
           · intro h; rw [show s[a] = 48 from UInt8.toNat_inj.1 (by rw [h]; rfl)]
         by_cases hA : most < N
         · rw [if_pos (.inl hA)] at hwd; have d1 : decide ((most : Int) < (N : Int)) = true := decide_eq_true (by omega); (have d1' : (most : Int) < (N : Int) := by omega); subst hwd; clear h48
           go_upto_region 11 with (fail)
           go_quiet (fail)
           go_wp2_with (go_at_call 24; go_must (refine (stop_w g s (blankRf st) 3 _ (by decide) (Hat0.out.up (Up.drewN (Up.refl _) _))).mono ?_; rintro e w8 ⟨rfl, ha8, hg8⟩))
           go_ret
           exact ⟨rfl, ha8, ((Hg.out.drewN _).trans hg8)⟩
         · have d1 : decide ((most : Int) < (N : Int)) = false := decide_eq_false (by omega); have d1' : ¬ (most : Int) < (N : Int) := by omega
           by_cases hB : ca = 48
           · by_cases hC : 1 < i
             · rw [if_pos (.inr ⟨h48.2 hB, hC⟩)] at hwd; have d2 : decide ((1 : Int) < (k : Int) - (a : Int)) = true := decide_eq_true (by have := Hk.out; omega); (have d3 : ((ca : Int) == 48) = true := by rw [hB]; rfl); subst hwd; clear h48
               go_upto_region 11 with (fail)
               go_quiet (fail)
               go_wp2_with (go_at_call 24; go_must (refine (stop_w g s (blankRf st) 3 _ (by decide) (Hat0.out.up (Up.drewN (Up.refl _) _))).mono ?_; rintro e w8 ⟨rfl, ha8, hg8⟩))
               go_ret
               exact ⟨rfl, ha8, ((Hg.out.drewN _).trans hg8)⟩
             · rw [if_neg (by rintro (h | h); exact hA h; exact hC h.2)] at hwd; have d2 : decide ((1 : Int) < (k : Int) - (a : Int)) = false := decide_eq_false (by have := Hk.out; omega); (have d3 : ((ca : Int) == 48) = true := by rw [hB]; rfl); subst hwd; clear h48
               go_upto_region 11 with (fail)
               go_quiet (fail)
               go_wp2_with fail
               go_ret
               refine ⟨rfl, ⟨k, hi, ?_, (Hp.out.drewN _).set1 k (by rfl)⟩, (Hg.out.drewN _).set _ _⟩; show dr s k = (skip st.l).drop i; rw [← Hd.out, dr_drop, Hk.out]
           · rw [if_neg (by rintro (h | h); exact hA h; exact hB (h48.1 h.1))] at hwd; (have d3 : ((ca : Int) == 48) = false := by rw [beq_eq_false_iff_ne]; omega); subst hwd; clear h48
             go_upto_region 11 with (fail)
             go_quiet (fail)
             go_wp2_with fail
             go_ret
             refine ⟨rfl, ⟨k, hi, ?_, (Hp.out.drewN _).set1 k (by rfl)⟩, (Hg.out.drewN _).set _ _⟩; show dr s k = (skip st.l).drop i; rw [← Hd.out, dr_drop, Hk.out]
     · (have p1 : (48 : Int) ≤ (c : Int) := by omega); have p2 : ¬ (c : Int) ≤ 57 := by omega
       have Hcand := hid (show (skip st.l).takeWhile digitB = (skip st.l).take i from by
         rw [← Hd.out]; exact dig_take (dr s a) i (by have := Hlen.out; have := Hk.out; omega) Hq.out (dig_stop Hx.out (by rw [Hdg.out, decide_eq_false_iff_not]; omega)))
       have hwd := Hwd.out; (have hcl : ((skip st.l).take i).length = i := by rw [List.length_take, ← Hd.out]; have := Hlen.out; have := Hk.out; omega); rw [Hcand.out, hcl] at hwd; have hf := Hp.out.fz 1; have h1 := Hp.out.c1; (have hN2 : capV ((skip st.l).take i) = N := by rw [← Hd.out]; exact HN.out); rw [hN2] at hwd
       by_cases hi0 : i = 0
       · (have e0 : ((skip st.l).take i) = [] := by rw [hi0]; rfl); rw [if_pos e0] at hwd; subst hwd; (have e9 : ((k : Int) == (a : Int)) = true := by rw [beq_iff_eq]; have := Hk.out; omega); clear hcl hi0 e0 hN2; go_wp2_with (go_at_call 24; go_must (refine (stop_w g s (blankRf st) 2 _ (by decide) Hat0.out).mono ?_; rintro e w8 ⟨rfl, ha8, hg8⟩))
         go_ret
         exact ⟨rfl, ha8, (Hg.out.trans hg8)⟩
       · (have e0 : ¬ ((skip st.l).take i) = [] := fun h => by rw [h] at hcl; simp at hcl; omega); rw [if_neg e0] at hwd; (have e9 : ((k : Int) == (a : Int)) = false := by rw [beq_eq_false_iff_ne]; have := Hk.out; omega); (have ha1 : a < s.size := by have := Hk.out; omega); (have ia1 : (a : Int) < (s.size : Int) := by omega); (have hh : (skip st.l).head? = some s[a] := by rw [← Hd.out, dr_cons ha1]; rfl); rw [hh] at hwd; obtain ⟨ca, hca⟩ : ∃ ca, ca = s[a].toNat := ⟨_, rfl⟩; have Hca := hid hca; replace hca := hca.symm; (have e6 : IntKind.i64.wrap ((k : Int) - (a : Int)) = (k : Int) - (a : Int) := by rw [IntKind.wrap_i64]; omega); have Hi0 := hid hi0; clear hcl e0 hN2 hh hi0
         have h48 : (some s[a] = some (48 : UInt8)) ↔ ca = 48 := by
           rw [Hca.out]; constructor
           · intro h; rw [Option.some.inj h]; rfl
           · intro h; rw [show s[a] = 48 from UInt8.toNat_inj.1 (by rw [h]; rfl)]
         by_cases hA : most < N
         · rw [if_pos (.inl hA)] at hwd; have d1 : decide ((most : Int) < (N : Int)) = true := decide_eq_true (by omega); (have d1' : (most : Int) < (N : Int) := by omega); subst hwd; clear h48
           go_upto_region 11 with (fail)
           go_quiet (fail)
           go_wp2_with (go_at_call 24; go_must (refine (stop_w g s (blankRf st) 3 _ (by decide) (Hat0.out.up (Up.drewN (Up.refl _) _))).mono ?_; rintro e w8 ⟨rfl, ha8, hg8⟩))
           go_ret
           exact ⟨rfl, ha8, ((Hg.out.drewN _).trans hg8)⟩
         · have d1 : decide ((most : Int) < (N : Int)) = false := decide_eq_false (by omega); have d1' : ¬ (most : Int) < (N : Int) := by omega
           by_cases hB : ca = 48
           · by_cases hC : 1 < i
             · rw [if_pos (.inr ⟨h48.2 hB, hC⟩)] at hwd; have d2 : decide ((1 : Int) < (k : Int) - (a : Int)) = true := decide_eq_true (by have := Hk.out; omega); (have d3 : ((ca : Int) == 48) = true := by rw [hB]; rfl); subst hwd; clear h48
               go_upto_region 11 with (fail)
               go_quiet (fail)
               go_wp2_with (go_at_call 24; go_must (refine (stop_w g s (blankRf st) 3 _ (by decide) (Hat0.out.up (Up.drewN (Up.refl _) _))).mono ?_; rintro e w8 ⟨rfl, ha8, hg8⟩))
               go_ret
               exact ⟨rfl, ha8, ((Hg.out.drewN _).trans hg8)⟩
             · rw [if_neg (by rintro (h | h); exact hA h; exact hC h.2)] at hwd; have d2 : decide ((1 : Int) < (k : Int) - (a : Int)) = false := decide_eq_false (by have := Hk.out; omega); (have d3 : ((ca : Int) == 48) = true := by rw [hB]; rfl); subst hwd; clear h48
               go_upto_region 11 with (fail)
               go_quiet (fail)
               go_wp2_with fail
               go_ret
               refine ⟨rfl, ⟨k, hi, ?_, (Hp.out.drewN _).set1 k (by rfl)⟩, (Hg.out.drewN _).set _ _⟩; show dr s k = (skip st.l).drop i; rw [← Hd.out, dr_drop, Hk.out]
           · rw [if_neg (by rintro (h | h); exact hA h; exact hB (h48.1 h.1))] at hwd; (have d3 : ((ca : Int) == 48) = false := by rw [beq_eq_false_iff_ne]; omega); subst hwd; clear h48
             go_upto_region 11 with (fail)
             go_quiet (fail)
             go_wp2_with fail
             go_ret
             refine ⟨rfl, ⟨k, hi, ?_, (Hp.out.drewN _).set1 k (by rfl)⟩, (Hg.out.drewN _).set _ _⟩; show dr s k = (skip st.l).drop i; rw [← Hd.out, dr_drop, Hk.out]
   · have j1 : decide ((k : Int) < (s.size : Int)) = false := decide_eq_false (by omega); have j2 : ¬ (k : Int) < (s.size : Int) := by omega
     have Hcand := hid (show (skip st.l).takeWhile digitB = (skip st.l).take i from by
       rw [← Hd.out]; exact dig_take (dr s a) i (by have := Hlen.out; have := Hk.out; omega) Hq.out (fun h => by have := Hlen.out; have := Hk.out; omega))
     have hwd := Hwd.out; (have hcl : ((skip st.l).take i).length = i := by rw [List.length_take, ← Hd.out]; have := Hlen.out; have := Hk.out; omega); rw [Hcand.out, hcl] at hwd; have hf := Hp.out.fz 1; have h1 := Hp.out.c1; (have hN2 : capV ((skip st.l).take i) = N := by rw [← Hd.out]; exact HN.out); rw [hN2] at hwd
     by_cases hi0 : i = 0
     · (have e0 : ((skip st.l).take i) = [] := by rw [hi0]; rfl); rw [if_pos e0] at hwd; subst hwd; (have e9 : ((k : Int) == (a : Int)) = true := by rw [beq_iff_eq]; have := Hk.out; omega); clear hcl hi0 e0 hN2; go_wp2_with (go_at_call 24; go_must (refine (stop_w g s (blankRf st) 2 _ (by decide) Hat0.out).mono ?_; rintro e w8 ⟨rfl, ha8, hg8⟩))
       go_ret
       exact ⟨rfl, ha8, (Hg.out.trans hg8)⟩
     · (have e0 : ¬ ((skip st.l).take i) = [] := fun h => by rw [h] at hcl; simp at hcl; omega); rw [if_neg e0] at hwd; (have e9 : ((k : Int) == (a : Int)) = false := by rw [beq_eq_false_iff_ne]; have := Hk.out; omega); (have ha1 : a < s.size := by have := Hk.out; omega); (have ia1 : (a : Int) < (s.size : Int) := by omega); (have hh : (skip st.l).head? = some s[a] := by rw [← Hd.out, dr_cons ha1]; rfl); rw [hh] at hwd; obtain ⟨ca, hca⟩ : ∃ ca, ca = s[a].toNat := ⟨_, rfl⟩; have Hca := hid hca; replace hca := hca.symm; (have e6 : IntKind.i64.wrap ((k : Int) - (a : Int)) = (k : Int) - (a : Int) := by rw [IntKind.wrap_i64]; omega); have Hi0 := hid hi0; clear hcl e0 hN2 hh hi0
       have h48 : (some s[a] = some (48 : UInt8)) ↔ ca = 48 := by
         rw [Hca.out]; constructor
         · intro h; rw [Option.some.inj h]; rfl
         · intro h; rw [show s[a] = 48 from UInt8.toNat_inj.1 (by rw [h]; rfl)]
       by_cases hA : most < N
       · rw [if_pos (.inl hA)] at hwd; have d1 : decide ((most : Int) < (N : Int)) = true := decide_eq_true (by omega); (have d1' : (most : Int) < (N : Int) := by omega); subst hwd; clear h48
         go_upto_region 11 with (fail)
         go_quiet (fail)
         go_wp2_with (go_at_call 24; go_must (refine (stop_w g s (blankRf st) 3 _ (by decide) (Hat0.out.up (Up.drewN (Up.refl _) _))).mono ?_; rintro e w8 ⟨rfl, ha8, hg8⟩))
         go_ret
         exact ⟨rfl, ha8, ((Hg.out.drewN _).trans hg8)⟩
       · have d1 : decide ((most : Int) < (N : Int)) = false := decide_eq_false (by omega); have d1' : ¬ (most : Int) < (N : Int) := by omega
         by_cases hB : ca = 48
         · by_cases hC : 1 < i
           · rw [if_pos (.inr ⟨h48.2 hB, hC⟩)] at hwd; have d2 : decide ((1 : Int) < (k : Int) - (a : Int)) = true := decide_eq_true (by have := Hk.out; omega); (have d3 : ((ca : Int) == 48) = true := by rw [hB]; rfl); subst hwd; clear h48
             go_upto_region 11 with (fail)
             go_quiet (fail)
             go_wp2_with (go_at_call 24; go_must (refine (stop_w g s (blankRf st) 3 _ (by decide) (Hat0.out.up (Up.drewN (Up.refl _) _))).mono ?_; rintro e w8 ⟨rfl, ha8, hg8⟩))
             go_ret
             exact ⟨rfl, ha8, ((Hg.out.drewN _).trans hg8)⟩
           · rw [if_neg (by rintro (h | h); exact hA h; exact hC h.2)] at hwd; have d2 : decide ((1 : Int) < (k : Int) - (a : Int)) = false := decide_eq_false (by have := Hk.out; omega); (have d3 : ((ca : Int) == 48) = true := by rw [hB]; rfl); subst hwd; clear h48
             go_upto_region 11 with (fail)
             go_quiet (fail)
             go_wp2_with fail
             go_ret
             refine ⟨rfl, ⟨k, hi, ?_, (Hp.out.drewN _).set1 k (by rfl)⟩, (Hg.out.drewN _).set _ _⟩; show dr s k = (skip st.l).drop i; rw [← Hd.out, dr_drop, Hk.out]
         · rw [if_neg (by rintro (h | h); exact hA h; exact hB (h48.1 h.1))] at hwd; (have d3 : ((ca : Int) == 48) = false := by rw [beq_eq_false_iff_ne]; omega); subst hwd; clear h48
           go_upto_region 11 with (fail)
           go_quiet (fail)
           go_wp2_with fail
           go_ret
           refine ⟨rfl, ⟨k, hi, ?_, (Hp.out.drewN _).set1 k (by rfl)⟩, (Hg.out.drewN _).set _ _⟩; show dr s k = (skip st.l).drop i; rw [← Hd.out, dr_drop, Hk.out]
end Go.Proofs.YtbceapeoknngnaaDoor
