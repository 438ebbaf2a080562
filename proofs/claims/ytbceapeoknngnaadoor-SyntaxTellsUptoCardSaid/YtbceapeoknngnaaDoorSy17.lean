/-
  The parser's num.
-/
import Derived.Test.YtbceapeoknngnaaDoorSy16
import Derived.Deep.RegionHeld3
set_option linter.unusedVariables false
namespace Go.Proofs.YtbceapeoknngnaaDoor
open Go.RowKit
set_option maxRecDepth 100000
open Lib (hid)
theorem dig_ext {L : List UInt8} {i : Nat} {c : UInt8} (q : ∀ j (hj : j < L.length), j < i → digitB L[j] = true) (hi : L[i]? = some c) (hc : digitB c = true) : ∀ j (hj : j < L.length), j < i + 1 → digitB L[j] = true := by
 intro j hj hji
 by_cases e : j = i
 · subst e; rw [List.getElem?_eq_getElem hj] at hi; rw [Option.some.inj hi]; exact hc
 · exact q j hj (by omega)
theorem dig_stop {L : List UInt8} {i : Nat} {c : UInt8} (hi : L[i]? = some c) (hc : digitB c = false) : ∀ h : i < L.length, digitB L[i] = false := by
 intro hj; rw [List.getElem?_eq_getElem hj] at hi; rw [Option.some.inj hi]; exact hc
theorem dig_take (L : List UInt8) (i : Nat) (hi : i ≤ L.length) (q : ∀ j (hj : j < L.length), j < i → digitB L[j] = true) (h2 : ∀ h : i < L.length, digitB L[i] = false) : L.takeWhile digitB = L.take i := tw_take digitB L i hi q h2
theorem num_no {most : Nat} {L l : List UInt8} (hl : skip l = L) (h : L.takeWhile digitB = []) : numP most l = .bad 2 L := by unfold numP; rw [hl, if_pos h]
theorem num_bad {most : Nat} {L l : List UInt8} {i : Nat} (hl : skip l = L) (h : L.takeWhile digitB = L.take i) (hi : i ≤ L.length) (h0 : 0 < i) (hb : most < decV (L.take i) ∨ L.head? = some 48 ∧ 1 < i) : numP most l = .bad 3 L := by
 (have hlen : (L.take i).length = i := by rw [List.length_take]; omega); unfold numP; rw [hl, h, if_neg (fun e => by rw [e] at hlen; simp at hlen; omega), if_pos (by rw [hlen]; exact hb)]
theorem num_ok {most : Nat} {L l : List UInt8} {i : Nat} (hl : skip l = L) (h : L.takeWhile digitB = L.take i) (hi : i ≤ L.length) (h0 : 0 < i) (hb : ¬ (most < decV (L.take i) ∨ L.head? = some 48 ∧ 1 < i)) : numP most l = .ok (decV (L.take i)) (L.drop i) := by
 (have hlen : (L.take i).length = i := by rw [List.length_take]; omega); unfold numP; rw [hl, h, if_neg (fun e => by rw [e] at hlen; simp at hlen; omega), if_neg (by rw [hlen]; exact hb), hlen]
set_option maxHeartbeats 3200000 in
theorem num_p (g : Nat) (s : ByteArray) (k0 most : Nat) (w : World) (hk0 : k0 ≤ s.size) (hz0 : s.size ≤ 4611686018427) (hm : most ≤ 9223372036854775807) (hgr : 2 < g) (hev : EvR w) (hp : PW g s k0 w) :
   Calls Tryd.prog 35 #[.pointer (some ⟨g, 0, none⟩), .int .i64 (most : Int)] w (PEnd g s w (numP most (dr s k0)) (fun _ n v => v = .int .i64 (n : Int))) := by
 have Hb := hid (blank_p g s k0 w hk0 (by omega) hp); have Hev := hid hev; clear hp hev
 go_enter Tryd.func35, Tryd.ntmps35
 (go_wp2_with (first | (go_at_call 14; go_must (refine Hb.out.mono ?_; rintro e w1 ⟨rfl, ⟨a, ha, hd, hp⟩, hg⟩; have h0 := hp.c0; have h1 := hp.c1; have hf := hp.fz 1; have hz := hp.lt; have Hp := hid hp; have Hg := hid hg; have Hd := hid hd; clear hp hg hd Hb)))); (go_loopw [5] (fun x wr => ∃ k i : Nat, k = a + i ∧ k ≤ s.size ∧ x = .int .i64 k ∧ wr = w1 ∧ ∀ j (hj : j < (dr s a).length), j < i → digitB (dr s a)[j] = true) (fun x _ => s.size - (intOf x).toNat)); case atStart => exact ⟨a, 0, by omega, ha, rfl, rfl, fun j _ h => absurd h (by omega)⟩
 case round =>
   obtain ⟨k, i, hki, hk, rfl, rfl, hq⟩ := hrel; have Hq := hid hq; have Hki := hid hki; clear hq hki
   by_cases hlt : k < s.size
   · have i1 : (k : Int) < (s.size : Int) := by omega
     have Hpi := hid (show (dr s a)[i]? = some s[k] from by
       have h := dr_at (s := s) (k := a) (i := i) (by have := Hki.out; omega); have hlen : k = a + i := Hki.out; subst hlen; exact h)
     have Hdg := hid (show digitB s[k] = decide (48 ≤ s[k].toNat ∧ s[k].toNat ≤ 57) from rfl); obtain ⟨c, hc⟩ : ∃ c, c = s[k].toNat := ⟨_, rfl⟩; rw [← hc] at Hdg; replace hc := hc.symm; (have hcs : (48 ≤ c ∧ c ≤ 57) ∨ c < 48 ∨ (48 ≤ c ∧ 57 < c) := by omega); rcases hcs with ⟨q1, q2⟩ | q1 | ⟨q1, q2⟩
     · have Hdt := hid (show digitB s[k] = true by rw [Hdg.out, decide_eq_true_iff]; exact ⟨q1, q2⟩); (have p1 : (48 : Int) ≤ (c : Int) := by omega); (have p2 : (c : Int) ≤ 57 := by omega); go_wp2_with fail
       go_roundw
       (case rel => exact ⟨k + 1, i + 1, by have := Hki.out; omega, by omega, by go_num, trivial, dig_ext Hq.out Hpi.out Hdt.out⟩); case measure => simp [intOf]; omega
     · have Hcand := hid (dig_take (dr s a) i (by rw [dr_len]; have := Hki.out; omega) Hq.out (dig_stop Hpi.out (by rw [Hdg.out, decide_eq_false_iff_not]; omega))); have p1 : ¬ (48 : Int) ≤ (c : Int) := by omega
       by_cases hi0 : i = 0
       · skip
         (have e9 : ((k : Int) == (a : Int)) = true := by rw [beq_iff_eq]; have := Hki.out; omega); have Hi0 := hid hi0; clear hi0; (go_wp2_with (first | (go_at_call 18; go_must (refine (fail_p g s a 2 _ Hp.out).mono ?_; rintro e w9 ⟨rfl, hu9⟩)))); have hl0 : (dr s a).length = s.size - a := dr_len s a; exact ⟨rfl, PEnd.of_bad (num_no Hd.out.symm (by rw [Hcand.out, Hi0.out]; rfl)) (by omega) (Hg.out.up hu9)⟩
       · skip
         have Hi0 := hid (show 0 < i by omega); clear hi0; (have hak : a < k := by have := Hki.out; have := Hi0.out; omega); have hsl2 := fun wx => sl_ab (s := s) (a := a) (k := k) (by omega) hk wx; (have e9 : ((k : Int) == (a : Int)) = false := by rw [beq_eq_false_iff_ne]; omega); have hxl : (s.extract a k).data.toList = (dr s a).take i := by rw [dr_extract, show k - a = i by have := Hki.out; omega]
         have hat := atoi_p (s.extract a k) (by rw [ByteArray.size_extract]; omega) (by
           rw [hxl]; intro c hc; obtain ⟨j, hj, rfl⟩ := List.getElem_of_mem hc; rw [List.getElem_take]
           exact Hq.out j _ (by rw [List.length_take] at hj; omega)) (by
           rw [hxl]; intro e; have := congrArg List.length e; rw [List.length_take, dr_len] at this; have h2 := Hki.out; have h3 := Hi0.out; simp at this; omega)
         rw [hxl] at hat; (have ha1 : a < s.size := by omega); (have ia : (a : Int) < (s.size : Int) := by omega); have Hhd := hid (show (dr s a).head? = some s[a] by rw [dr_cons ha1]; rfl); obtain ⟨V, hV⟩ : ∃ V, decV ((dr s a).take i) = V := ⟨_, rfl⟩; rw [hV] at hat; have HV := hid hV; have Hat := hid hat; have hev1 := Hev.out.gr Hg.out hgr; have Hev1 := hid hev1; clear hV hat hxl hev1; go_wp2_with fail
         go_region_held3 (fun w' => w'.cell? ⟨g, 0, none⟩ = some (.string s) ∧ w'.cell? ⟨g, 1, none⟩ = some (.int .i64 a)) (first | go_keep | exact ⟨h0, h1⟩)
           (first | (go_at_call 45; refine (Hat.out _ (Hev1.out.up (Up.refl _).drew)).mono ?_; rintro e w8 ⟨⟨n, er, rfl, hor⟩, hu8⟩; have hu8' := (Up.refl wr).drew.trans hu8; have hp8 := Hp.out.up hu8'; have h0 := hp8.c0; have h1 := hp8.c1; have hf := hp8.fz 1; have hz := hp8.lt; have Hp8 := hid hp8; have Hg8 := hid (Hg.out.up hu8'); have Hor := hid hor; clear hp8 hu8' hor hu8))
         rcases Hor.out with ⟨hlV, rfl, rfl⟩ | ⟨hlV, tt, tp, rfl⟩
         · clear Hor
           by_cases hmV : most < V
           · have d1 : decide ((most : Int) < (V : Int)) = true := decide_eq_true (by omega); have d1' : decide (most < V) = true := decide_eq_true (by omega); go_wp2_with fail
             go_quiet (fail)
             (go_wp2_with (first | (go_at_call 18; go_must (refine (fail_p g s a 3 _ (Hp8.out.drewN _)).mono ?_; rintro e w9 ⟨rfl, hu9⟩)))); have hl0 : (dr s a).length = s.size - a := dr_len s a; exact ⟨rfl, PEnd.of_bad (num_bad Hd.out.symm Hcand.out (by have := Hki.out; omega) Hi0.out (.inl (by rw [HV.out]; exact hmV))) (by omega) ((Hg8.out.drewN _).up hu9)⟩
           · have d1 : decide ((most : Int) < (V : Int)) = false := decide_eq_false (by omega); have d1' : decide (most < V) = false := decide_eq_false (by omega); have HmV := hid hmV; clear hmV
             by_cases h48 : s[a] = 48
             · (have d2 : ((s[a].toNat : Int) == 48) = true := by rw [h48]; rfl); have H48 := hid h48; clear h48
               by_cases hi1 : 1 < i
               · have d3 : decide ((a : Int) + 1 < (k : Int)) = true := decide_eq_true (by have := Hki.out; omega); have d3' : decide (a + 1 < k) = true := decide_eq_true (by have := Hki.out; omega); go_wp2_with fail
                 go_quiet (fail)
                 (go_wp2_with (first | (go_at_call 18; go_must (refine (fail_p g s a 3 _ (Hp8.out.drewN _)).mono ?_; rintro e w9 ⟨rfl, hu9⟩)))); have hl0 : (dr s a).length = s.size - a := dr_len s a; exact ⟨rfl, PEnd.of_bad (num_bad Hd.out.symm Hcand.out (by have := Hki.out; omega) Hi0.out (.inr ⟨by rw [Hhd.out, H48.out], hi1⟩)) (by omega) ((Hg8.out.drewN _).up hu9)⟩
               · have d3 : decide ((a : Int) + 1 < (k : Int)) = false := decide_eq_false (by have := Hki.out; omega); have d3' : decide (a + 1 < k) = false := decide_eq_false (by have := Hki.out; omega); go_wp2_with fail
                 go_quiet (fail)
                 go_wp2_with fail
                 go_ret
                 refine PEnd.of_ok (num_ok Hd.out.symm Hcand.out (by rw [dr_len]; have := Hki.out; omega) Hi0.out (fun e => e.elim (fun h => HmV.out (by rw [← HV.out]; exact h)) (fun h => hi1 h.2))) ?_ ⟨k, hk, ?_, (Hp8.out.drewN _).set k⟩ ((Hg8.out.drewN _).set _ _)
                 · rw [HV.out]; rfl
                 · rw [dr_drop, Hki.out]
             · have d2 : ((s[a].toNat : Int) == 48) = false := by
                 rw [beq_eq_false_iff_ne]; intro e; exact h48 (UInt8.toNat_inj.1 (by rw [show (48 : UInt8).toNat = 48 from rfl]; omega))
               have H48 := hid h48; clear h48; go_wp2_with fail
               go_quiet (fail)
               go_wp2_with fail
               go_ret
               refine PEnd.of_ok (num_ok Hd.out.symm Hcand.out (by rw [dr_len]; have := Hki.out; omega) Hi0.out (fun e => e.elim (fun h => HmV.out (by rw [← HV.out]; exact h)) (fun h => H48.out (by have h2 := h.1; rw [Hhd.out] at h2; exact Option.some.inj h2)))) ?_ ⟨k, hk, ?_, (Hp8.out.drewN _).set k⟩ ((Hg8.out.drewN _).set _ _)
               · rw [HV.out]; rfl
               · rw [dr_drop, Hki.out]
         · clear Hor; go_wp2_with fail
           go_quiet (fail)
           (go_wp2_with (first | (go_at_call 18; go_must (refine (fail_p g s a 3 _ (Hp8.out.drewN _)).mono ?_; rintro e w9 ⟨rfl, hu9⟩)))); have hl0 : (dr s a).length = s.size - a := dr_len s a; exact ⟨rfl, PEnd.of_bad (num_bad Hd.out.symm Hcand.out (by have := Hki.out; omega) Hi0.out (.inl (by rw [HV.out]; omega))) (by omega) ((Hg8.out.drewN _).up hu9)⟩
     · have Hcand := hid (dig_take (dr s a) i (by rw [dr_len]; have := Hki.out; omega) Hq.out (dig_stop Hpi.out (by rw [Hdg.out, decide_eq_false_iff_not]; omega))); (have p1 : (48 : Int) ≤ (c : Int) := by omega); have p2 : ¬ (c : Int) ≤ 57 := by omega
       by_cases hi0 : i = 0
       · skip
         (have e9 : ((k : Int) == (a : Int)) = true := by rw [beq_iff_eq]; have := Hki.out; omega); have Hi0 := hid hi0; clear hi0; (go_wp2_with (first | (go_at_call 18; go_must (refine (fail_p g s a 2 _ Hp.out).mono ?_; rintro e w9 ⟨rfl, hu9⟩)))); have hl0 : (dr s a).length = s.size - a := dr_len s a; exact ⟨rfl, PEnd.of_bad (num_no Hd.out.symm (by rw [Hcand.out, Hi0.out]; rfl)) (by omega) (Hg.out.up hu9)⟩
       · skip
         have Hi0 := hid (show 0 < i by omega); clear hi0; (have hak : a < k := by have := Hki.out; have := Hi0.out; omega); have hsl2 := fun wx => sl_ab (s := s) (a := a) (k := k) (by omega) hk wx; (have e9 : ((k : Int) == (a : Int)) = false := by rw [beq_eq_false_iff_ne]; omega); have hxl : (s.extract a k).data.toList = (dr s a).take i := by rw [dr_extract, show k - a = i by have := Hki.out; omega]
         have hat := atoi_p (s.extract a k) (by rw [ByteArray.size_extract]; omega) (by
           rw [hxl]; intro c hc; obtain ⟨j, hj, rfl⟩ := List.getElem_of_mem hc; rw [List.getElem_take]
           exact Hq.out j _ (by rw [List.length_take] at hj; omega)) (by
           rw [hxl]; intro e; have := congrArg List.length e; rw [List.length_take, dr_len] at this; have h2 := Hki.out; have h3 := Hi0.out; simp at this; omega)
         rw [hxl] at hat; (have ha1 : a < s.size := by omega); (have ia : (a : Int) < (s.size : Int) := by omega); have Hhd := hid (show (dr s a).head? = some s[a] by rw [dr_cons ha1]; rfl); obtain ⟨V, hV⟩ : ∃ V, decV ((dr s a).take i) = V := ⟨_, rfl⟩; rw [hV] at hat; have HV := hid hV; have Hat := hid hat; have hev1 := Hev.out.gr Hg.out hgr; have Hev1 := hid hev1; clear hV hat hxl hev1; go_wp2_with fail
         go_region_held3 (fun w' => w'.cell? ⟨g, 0, none⟩ = some (.string s) ∧ w'.cell? ⟨g, 1, none⟩ = some (.int .i64 a)) (first | go_keep | exact ⟨h0, h1⟩)
           (first | (go_at_call 45; refine (Hat.out _ (Hev1.out.up (Up.refl _).drew)).mono ?_; rintro e w8 ⟨⟨n, er, rfl, hor⟩, hu8⟩; have hu8' := (Up.refl wr).drew.trans hu8; have hp8 := Hp.out.up hu8'; have h0 := hp8.c0; have h1 := hp8.c1; have hf := hp8.fz 1; have hz := hp8.lt; have Hp8 := hid hp8; have Hg8 := hid (Hg.out.up hu8'); have Hor := hid hor; clear hp8 hu8' hor hu8))
         rcases Hor.out with ⟨hlV, rfl, rfl⟩ | ⟨hlV, tt, tp, rfl⟩
         · clear Hor
           by_cases hmV : most < V
           · have d1 : decide ((most : Int) < (V : Int)) = true := decide_eq_true (by omega); have d1' : decide (most < V) = true := decide_eq_true (by omega); go_wp2_with fail
             go_quiet (fail)
             (go_wp2_with (first | (go_at_call 18; go_must (refine (fail_p g s a 3 _ (Hp8.out.drewN _)).mono ?_; rintro e w9 ⟨rfl, hu9⟩)))); have hl0 : (dr s a).length = s.size - a := dr_len s a; exact ⟨rfl, PEnd.of_bad (num_bad Hd.out.symm Hcand.out (by have := Hki.out; omega) Hi0.out (.inl (by rw [HV.out]; exact hmV))) (by omega) ((Hg8.out.drewN _).up hu9)⟩
           · have d1 : decide ((most : Int) < (V : Int)) = false := decide_eq_false (by omega); have d1' : decide (most < V) = false := decide_eq_false (by omega); have HmV := hid hmV; clear hmV
             by_cases h48 : s[a] = 48
             · (have d2 : ((s[a].toNat : Int) == 48) = true := by rw [h48]; rfl); have H48 := hid h48; clear h48
               by_cases hi1 : 1 < i
               · have d3 : decide ((a : Int) + 1 < (k : Int)) = true := decide_eq_true (by have := Hki.out; omega); have d3' : decide (a + 1 < k) = true := decide_eq_true (by have := Hki.out; omega); go_wp2_with fail
                 go_quiet (fail)
                 (go_wp2_with (first | (go_at_call 18; go_must (refine (fail_p g s a 3 _ (Hp8.out.drewN _)).mono ?_; rintro e w9 ⟨rfl, hu9⟩)))); have hl0 : (dr s a).length = s.size - a := dr_len s a; exact ⟨rfl, PEnd.of_bad (num_bad Hd.out.symm Hcand.out (by have := Hki.out; omega) Hi0.out (.inr ⟨by rw [Hhd.out, H48.out], hi1⟩)) (by omega) ((Hg8.out.drewN _).up hu9)⟩
               · have d3 : decide ((a : Int) + 1 < (k : Int)) = false := decide_eq_false (by have := Hki.out; omega); have d3' : decide (a + 1 < k) = false := decide_eq_false (by have := Hki.out; omega); go_wp2_with fail
                 go_quiet (fail)
                 go_wp2_with fail
                 go_ret
                 refine PEnd.of_ok (num_ok Hd.out.symm Hcand.out (by rw [dr_len]; have := Hki.out; omega) Hi0.out (fun e => e.elim (fun h => HmV.out (by rw [← HV.out]; exact h)) (fun h => hi1 h.2))) ?_ ⟨k, hk, ?_, (Hp8.out.drewN _).set k⟩ ((Hg8.out.drewN _).set _ _)
                 · rw [HV.out]; rfl
                 · rw [dr_drop, Hki.out]
             · have d2 : ((s[a].toNat : Int) == 48) = false := by
                 rw [beq_eq_false_iff_ne]; intro e; exact h48 (UInt8.toNat_inj.1 (by rw [show (48 : UInt8).toNat = 48 from rfl]; omega))
               have H48 := hid h48; clear h48; go_wp2_with fail
               go_quiet (fail)
               go_wp2_with fail
               go_ret
               refine PEnd.of_ok (num_ok Hd.out.symm Hcand.out (by rw [dr_len]; have := Hki.out; omega) Hi0.out (fun e => e.elim (fun h => HmV.out (by rw [← HV.out]; exact h)) (fun h => H48.out (by have h2 := h.1; rw [Hhd.out] at h2; exact Option.some.inj h2)))) ?_ ⟨k, hk, ?_, (Hp8.out.drewN _).set k⟩ ((Hg8.out.drewN _).set _ _)
               · rw [HV.out]; rfl
               · rw [dr_drop, Hki.out]
         · clear Hor; go_wp2_with fail
           go_quiet (fail)
           (go_wp2_with (first | (go_at_call 18; go_must (refine (fail_p g s a 3 _ (Hp8.out.drewN _)).mono ?_; rintro e w9 ⟨rfl, hu9⟩)))); have hl0 : (dr s a).length = s.size - a := dr_len s a; exact ⟨rfl, PEnd.of_bad (num_bad Hd.out.symm Hcand.out (by have := Hki.out; omega) Hi0.out (.inl (by rw [HV.out]; omega))) (by omega) ((Hg8.out.drewN _).up hu9)⟩
   · have Hcand := hid (dig_take (dr s a) i (by rw [dr_len]; have := Hki.out; omega) Hq.out (fun h => by rw [dr_len] at h; have := Hki.out; omega)); have j2 : ¬ (k : Int) < (s.size : Int) := by omega
     by_cases hi0 : i = 0
     · skip
       (have e9 : ((k : Int) == (a : Int)) = true := by rw [beq_iff_eq]; have := Hki.out; omega); have Hi0 := hid hi0; clear hi0; (go_wp2_with (first | (go_at_call 18; go_must (refine (fail_p g s a 2 _ Hp.out).mono ?_; rintro e w9 ⟨rfl, hu9⟩)))); have hl0 : (dr s a).length = s.size - a := dr_len s a; exact ⟨rfl, PEnd.of_bad (num_no Hd.out.symm (by rw [Hcand.out, Hi0.out]; rfl)) (by omega) (Hg.out.up hu9)⟩
     · skip
       have Hi0 := hid (show 0 < i by omega); clear hi0; (have hak : a < k := by have := Hki.out; have := Hi0.out; omega); have hsl2 := fun wx => sl_ab (s := s) (a := a) (k := k) (by omega) hk wx; (have e9 : ((k : Int) == (a : Int)) = false := by rw [beq_eq_false_iff_ne]; omega); have hxl : (s.extract a k).data.toList = (dr s a).take i := by rw [dr_extract, show k - a = i by have := Hki.out; omega]
       have hat := atoi_p (s.extract a k) (by rw [ByteArray.size_extract]; omega) (by
         rw [hxl]; intro c hc; obtain ⟨j, hj, rfl⟩ := List.getElem_of_mem hc; rw [List.getElem_take]
         exact Hq.out j _ (by rw [List.length_take] at hj; omega)) (by
         rw [hxl]; intro e; have := congrArg List.length e; rw [List.length_take, dr_len] at this; have h2 := Hki.out; have h3 := Hi0.out; simp at this; omega)
       rw [hxl] at hat; (have ha1 : a < s.size := by omega); (have ia : (a : Int) < (s.size : Int) := by omega); have Hhd := hid (show (dr s a).head? = some s[a] by rw [dr_cons ha1]; rfl); obtain ⟨V, hV⟩ : ∃ V, decV ((dr s a).take i) = V := ⟨_, rfl⟩; rw [hV] at hat; have HV := hid hV; have Hat := hid hat; have hev1 := Hev.out.gr Hg.out hgr; have Hev1 := hid hev1; clear hV hat hxl hev1; go_wp2_with fail
       go_region_held3 (fun w' => w'.cell? ⟨g, 0, none⟩ = some (.string s) ∧ w'.cell? ⟨g, 1, none⟩ = some (.int .i64 a)) (first | go_keep | exact ⟨h0, h1⟩)
         (first | (go_at_call 45; refine (Hat.out _ (Hev1.out.up (Up.refl _).drew)).mono ?_; rintro e w8 ⟨⟨n, er, rfl, hor⟩, hu8⟩; have hu8' := (Up.refl wr).drew.trans hu8; have hp8 := Hp.out.up hu8'; have h0 := hp8.c0; have h1 := hp8.c1; have hf := hp8.fz 1; have hz := hp8.lt; have Hp8 := hid hp8; have Hg8 := hid (Hg.out.up hu8'); have Hor := hid hor; clear hp8 hu8' hor hu8))
       rcases Hor.out with ⟨hlV, rfl, rfl⟩ | ⟨hlV, tt, tp, rfl⟩
       · clear Hor
         by_cases hmV : most < V
         · have d1 : decide ((most : Int) < (V : Int)) = true := decide_eq_true (by omega); have d1' : decide (most < V) = true := decide_eq_true (by omega); go_wp2_with fail
           go_quiet (fail)
           (go_wp2_with (first | (go_at_call 18; go_must (refine (fail_p g s a 3 _ (Hp8.out.drewN _)).mono ?_; rintro e w9 ⟨rfl, hu9⟩)))); have hl0 : (dr s a).length = s.size - a := dr_len s a; exact ⟨rfl, PEnd.of_bad (num_bad Hd.out.symm Hcand.out (by have := Hki.out; omega) Hi0.out (.inl (by rw [HV.out]; exact hmV))) (by omega) ((Hg8.out.drewN _).up hu9)⟩
         · have d1 : decide ((most : Int) < (V : Int)) = false := decide_eq_false (by omega); have d1' : decide (most < V) = false := decide_eq_false (by omega); have HmV := hid hmV; clear hmV
           by_cases h48 : s[a] = 48
           · (have d2 : ((s[a].toNat : Int) == 48) = true := by rw [h48]; rfl); have H48 := hid h48; clear h48
             by_cases hi1 : 1 < i
             · have d3 : decide ((a : Int) + 1 < (k : Int)) = true := decide_eq_true (by have := Hki.out; omega); have d3' : decide (a + 1 < k) = true := decide_eq_true (by have := Hki.out; omega); go_wp2_with fail
               go_quiet (fail)
               (go_wp2_with (first | (go_at_call 18; go_must (refine (fail_p g s a 3 _ (Hp8.out.drewN _)).mono ?_; rintro e w9 ⟨rfl, hu9⟩)))); have hl0 : (dr s a).length = s.size - a := dr_len s a; exact ⟨rfl, PEnd.of_bad (num_bad Hd.out.symm Hcand.out (by have := Hki.out; omega) Hi0.out (.inr ⟨by rw [Hhd.out, H48.out], hi1⟩)) (by omega) ((Hg8.out.drewN _).up hu9)⟩
             · have d3 : decide ((a : Int) + 1 < (k : Int)) = false := decide_eq_false (by have := Hki.out; omega); have d3' : decide (a + 1 < k) = false := decide_eq_false (by have := Hki.out; omega); go_wp2_with fail
               go_quiet (fail)
               go_wp2_with fail
               go_ret
               refine PEnd.of_ok (num_ok Hd.out.symm Hcand.out (by rw [dr_len]; have := Hki.out; omega) Hi0.out (fun e => e.elim (fun h => HmV.out (by rw [← HV.out]; exact h)) (fun h => hi1 h.2))) ?_ ⟨k, hk, ?_, (Hp8.out.drewN _).set k⟩ ((Hg8.out.drewN _).set _ _)
               · rw [HV.out]; rfl
               · rw [dr_drop, Hki.out]
           · have d2 : ((s[a].toNat : Int) == 48) = false := by
               rw [beq_eq_false_iff_ne]; intro e; exact h48 (UInt8.toNat_inj.1 (by rw [show (48 : UInt8).toNat = 48 from rfl]; omega))
             have H48 := hid h48; clear h48; go_wp2_with fail
             go_quiet (fail)
             go_wp2_with fail
             go_ret
             refine PEnd.of_ok (num_ok Hd.out.symm Hcand.out (by rw [dr_len]; have := Hki.out; omega) Hi0.out (fun e => e.elim (fun h => HmV.out (by rw [← HV.out]; exact h)) (fun h => H48.out (by have h2 := h.1; rw [Hhd.out] at h2; exact Option.some.inj h2)))) ?_ ⟨k, hk, ?_, (Hp8.out.drewN _).set k⟩ ((Hg8.out.drewN _).set _ _)
             · rw [HV.out]; rfl
             · rw [dr_drop, Hki.out]
       · clear Hor; go_wp2_with fail
         go_quiet (fail)
         (go_wp2_with (first | (go_at_call 18; go_must (refine (fail_p g s a 3 _ (Hp8.out.drewN _)).mono ?_; rintro e w9 ⟨rfl, hu9⟩)))); have hl0 : (dr s a).length = s.size - a := dr_len s a; exact ⟨rfl, PEnd.of_bad (num_bad Hd.out.symm Hcand.out (by have := Hki.out; omega) Hi0.out (.inl (by rw [HV.out]; omega))) (by omega) ((Hg8.out.drewN _).up hu9)⟩
end Go.Proofs.YtbceapeoknngnaaDoor
