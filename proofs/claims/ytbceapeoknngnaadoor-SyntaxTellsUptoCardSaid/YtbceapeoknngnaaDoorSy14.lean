/-
  The parser's word, peek.
-/
import Derived.Test.YtbceapeoknngnaaDoorSy13
set_option linter.unusedVariables false
namespace Go.Proofs.YtbceapeoknngnaaDoor
open Go.RowKit
set_option maxRecDepth 100000
open Lib (hid)
theorem tw_take {α : Type} (p : α → Bool) : ∀ (L : List α) (i : Nat), i ≤ L.length → (∀ j (hj : j < L.length), j < i → p L[j] = true) → (∀ h : i < L.length, p L[i] = false) → L.takeWhile p = L.take i
 | [], i, hi, _, _ => by simp
 | c :: L, 0, _, _, h => by
   have := h (by simp); simp only [List.getElem_cons_zero] at this; rw [List.takeWhile_cons, this]; rfl
 | c :: L, i + 1, hi, h1, h2 => by
   have h0 := h1 0 (by simp) (by omega); simp only [List.getElem_cons_zero] at h0; rw [List.takeWhile_cons, if_pos h0, List.take_succ_cons, tw_take p L i (by simpa using hi) (fun j hj hji => by have := h1 (j + 1) (by simpa using hj) (by omega); simpa using this) (fun h => by have := h2 (by simpa using h); simpa using this)]
theorem more_of_letter {c : Nat} (h : letterN c = true) : moreN c = true := by
 unfold letterN at h; unfold moreN; rw [decide_eq_true_eq] at h ⊢; omega
theorem cand_take (L : List UInt8) (i : Nat) (hi : i ≤ L.length) (h1 : ∀ j (hj : j < L.length), j < i → partN j L[j].toNat = true) (h2 : ∀ h : i < L.length, partN i L[i].toNat = false) : candP L = L.take i := by
 cases L with
 | nil => simp [candP]
 | cons c l =>
   show (if letterB c = true then (c :: l).takeWhile moreB else []) = _
   cases i with
   | zero =>
     have h := h2 (by simp); simp only [List.getElem_cons_zero, partN, if_true] at h; rw [show letterB c = false from h]; rfl
   | succ i =>
     have h := h1 0 (by simp) (by omega); simp only [List.getElem_cons_zero, partN, if_true] at h; rw [if_pos (show letterB c = true from h)]; refine tw_take moreB _ _ hi (fun j hj hji => ?_) (fun h => ?_)
     · have := h1 j hj hji; unfold partN at this; split at this
       · exact more_of_letter this
       · exact this
     · have := h2 h; rw [partN, if_neg (by omega)] at this; exact this
theorem ext_part {L : List UInt8} {i : Nat} {c : UInt8} (q : ∀ j (hj : j < L.length), j < i → partN j L[j].toNat = true) (hi : L[i]? = some c) (hc : partN i c.toNat = true) : ∀ j (hj : j < L.length), j < i + 1 → partN j L[j].toNat = true := by
 intro j hj hji
 by_cases e : j = i
 · subst e; rw [List.getElem?_eq_getElem hj] at hi; rw [Option.some.inj hi]; exact hc
 · exact q j hj (by omega)
theorem stop_part {L : List UInt8} {i : Nat} {c : UInt8} (hi : L[i]? = some c) (hc : partN i c.toNat = false) : ∀ h : i < L.length, partN i L[i].toNat = false := by
 intro hj; rw [List.getElem?_eq_getElem hj] at hi; rw [Option.some.inj hi]; exact hc
theorem sl_1 {s : ByteArray} {k : Nat} (h : k < s.size) (wx : World) : (Instr.slice 9 (.string s) (some (.int .i64 (k : Int))) (some (.int .i64 ((k : Int) + 1))) none).run Tryd.prog wx = .ok (.string (s.extract k (k + 1))) wx := by
 have h := run_slice_string (P := Tryd.prog) wx 9 s .i64 .i64 (k : Int) ((k : Int) + 1) Tryd.underlying9 (by omega) (by omega) (by omega); rw [show ((k : Int) + 1).toNat = k + 1 by omega, show (k : Int).toNat = k by omega] at h; exact h
theorem sl_ab {s : ByteArray} {a k : Nat} (h : a ≤ k) (hk : k ≤ s.size) (wx : World) : (Instr.slice 9 (.string s) (some (.int .i64 (a : Int))) (some (.int .i64 (k : Int))) none).run Tryd.prog wx = .ok (.string (s.extract a k)) wx := by
 have h := run_slice_string (P := Tryd.prog) wx 9 s .i64 .i64 (a : Int) (k : Int) Tryd.underlying9 (by omega) (by omega) (by omega); rw [show (k : Int).toNat = k by omega, show (a : Int).toNat = a by omega] at h; exact h
theorem word_no {L : List UInt8} {l : List UInt8} (hl : skip l = L) (h : candP L = []) : wordP l = .bad 2 L := by unfold wordP; rw [hl, if_pos h]
theorem word_big {L : List UInt8} {l : List UInt8} {i : Nat} (hl : skip l = L) (h : candP L = L.take i) (hi : i ≤ L.length) (h0 : 16 < i) : wordP l = .bad 7 L := by
 (have hlen : (L.take i).length = i := by rw [List.length_take]; omega); unfold wordP; rw [hl, h, if_neg (fun e => by rw [e] at hlen; simp at hlen; omega), if_pos (by omega)]
theorem word_ok {L : List UInt8} {l : List UInt8} {i : Nat} (hl : skip l = L) (h : candP L = L.take i) (hi : i ≤ L.length) (h0 : 0 < i) (h1 : i ≤ 16) : wordP l = .ok (L.take i) (L.drop i) := by
 (have hlen : (L.take i).length = i := by rw [List.length_take]; omega); unfold wordP; rw [hl, h, if_neg (fun e => by rw [e] at hlen; simp at hlen; omega), if_neg (by omega), hlen]
theorem ba_eq {b : ByteArray} {l : List UInt8} (h : b.data.toList = l) : b = ⟨l.toArray⟩ := by
 subst h; rfl
theorem dr_ext1 {s : ByteArray} {k : Nat} (h : k < s.size) : (s.extract k (k + 1)).data.toList = [s[k]] := by
 rw [dr_extract, dr_cons h, show k + 1 - k = 1 by omega]; rfl
theorem named_1 (c : UInt8) : named [c] = letterN c.toNat := by
 unfold named; simp [partN, List.range_succ]
theorem named_a (c : UInt8) : named [97, c] = moreN c.toNat := by
 unfold named; simp [List.range_succ, partN]; exact fun _ => by decide
set_option maxHeartbeats 3200000 in
theorem word_p (g : Nat) (s : ByteArray) (k0 : Nat) (w : World) (hk0 : k0 ≤ s.size) (hz0 : s.size ≤ 4611686018427387904) (hp : PW g s k0 w) :
   Calls Tryd.prog 15 #[.pointer (some ⟨g, 0, none⟩)] w (PEnd g s w (wordP (dr s k0)) (fun _ a v => v = .string ⟨a.toArray⟩)) := by
 have Hb := hid (blank_p g s k0 w hk0 hz0 hp); clear hp
 go_enter Tryd.func15, Tryd.ntmps15
 (go_wp2_with (first | (go_at_call 14; go_must (refine Hb.out.mono ?_; rintro e w1 ⟨rfl, ⟨a, ha, hd, hp⟩, hg⟩; have h0 := hp.c0; have h1 := hp.c1; have hf := hp.fz 1; have hz := hp.lt; have Hp := hid hp; have Hg := hid hg; have Hd := hid hd; clear hp hg hd Hb)))); (go_loopw [3] (fun x wr => ∃ k i : Nat, k = a + i ∧ k ≤ s.size ∧ x = .int .i64 k ∧ PW g s a wr ∧ Gr g w wr ∧ ∀ j (hj : j < (dr s a).length), j < i → partN j (dr s a)[j].toNat = true) (fun x _ => s.size - (intOf x).toNat)); case atStart => exact ⟨a, 0, by omega, ha, rfl, Hp.out, Hg.out, fun j _ h => absurd h (by omega)⟩
 case round =>
   obtain ⟨k, i, hki, hk, rfl, hp, hg, hq⟩ := hrel; clear h0 h1 hf hz Hp Hg; have h0 := hp.c0; have h1 := hp.c1; have hf := hp.fz 1; have hz := hp.lt; have Hp := hid hp; have Hg := hid hg; have Hq := hid hq; have Hki := hid hki; clear hp hg hq hki
   by_cases hlt : k < s.size
   · (have i1 : (k : Int) < (s.size : Int) := by omega); have j1 : decide ((k : Int) < (s.size : Int)) = true := decide_eq_true i1; have hsl := fun wx => sl_1 hlt wx; have hn1 := fun w => named_s (s.extract k (k + 1)) w; have hn2 := fun w => named_s ((⟨#[97]⟩ : ByteArray) ++ s.extract k (k + 1)) w
     have e2 : ((⟨#[97]⟩ : ByteArray) ++ s.extract k (k + 1)).data.toList = [97, s[k]] := by
       rw [ByteArray.data_append, Array.toList_append, dr_ext1 hlt]; rfl
     rw [dr_ext1 hlt, named_1] at hn1; rw [e2, named_a] at hn2
     have Hpi := hid (show (dr s a)[i]? = some s[k] from by
       have h := dr_at (s := s) (k := a) (i := i) (by have := Hki.out; omega); have hlen : k = a + i := Hki.out; subst hlen; exact h)
     clear e2; have hlm : letterN s[k].toNat = true → moreN s[k].toNat = true := more_of_letter; have Hlm := hid hlm; clear hlm; obtain ⟨c, hc⟩ : ∃ c, c = s[k].toNat := ⟨_, rfl⟩; rw [← hc] at hn1 hn2 Hlm; have Hc := hid hc; clear hc
     have hcs : letterN c = true ∨ (letterN c = false ∧ i = 0) ∨ (letterN c = false ∧ i ≠ 0 ∧ moreN c = true) ∨ (letterN c = false ∧ i ≠ 0 ∧ moreN c = false) := by
       cases letterN c <;> cases moreN c <;> simp <;> omega
     rcases hcs with hl | ⟨hl, hi0⟩ | ⟨hl, hi0, hm⟩ | ⟨hl, hi0, hm⟩
     · rw [hl] at hn1; have Hn1 := hid hn1; clear hn1 hn2; (go_wp2_with (first | (go_at_call 9; have hx := Hn1.out; clear Hn1; go_must (refine (hx _).mono ?_; rintro e w2 ⟨rfl, hu⟩; have h0 := hu.cell_some h0; have h1 := hu.cell_some h1; have hz := Nat.lt_of_lt_of_le hz hu.size; have hp2 := Hp.out.up hu; have hg2 := Hg.out.up hu; have hf := hp2.fz 1; have Hp := hid hp2; have Hg := hid hg2; clear hp2 hg2 hu hx)))); (refine ⟨⟨k + 1, i + 1, by have := Hki.out; omega, by omega, by go_num, Hp.out, Hg.out, ext_part Hq.out Hpi.out (by rw [← Hc.out, partN]; split; exact hl; exact Hlm.out hl)⟩, ?_⟩); simp [intOf]; omega
     · have Hka := hid (show k = a from by have := Hki.out; omega); have Hcand := hid (cand_take (dr s a) i (by rw [dr_len]; have := Hki.out; omega) Hq.out (stop_part Hpi.out (by rw [← Hc.out, partN, if_pos hi0]; exact hl))); have Hi0 := hid hi0; clear hi0; (have e9 : ((k : Int) == (a : Int)) = true := by rw [beq_iff_eq]; have := Hka.out; omega); (have d1 : ¬ (a : Int) < (k : Int) := by have := Hka.out; omega); rw [hl] at hn1; have Hn1 := hid hn1; clear hn1 hn2 hl; (go_wp2_with (first | (go_at_call 9; have hx := Hn1.out; clear Hn1; go_must (refine (hx _).mono ?_; rintro e w2 ⟨rfl, hu⟩; have h0 := hu.cell_some h0; have h1 := hu.cell_some h1; have hz := Nat.lt_of_lt_of_le hz hu.size; have hp2 := Hp.out.up hu; have hg2 := Hg.out.up hu; have hf := hp2.fz 1; have Hp := hid hp2; have Hg := hid hg2; clear hp2 hg2 hu hx)) | (go_at_call 18; go_must (refine (fail_p g s a 2 _ Hp.out).mono ?_; rintro e w8 ⟨rfl, hu8⟩)))); have hl0 : (dr s a).length = s.size - a := dr_len s a; exact ⟨rfl, PEnd.of_bad (word_no Hd.out.symm (by rw [Hcand.out]; have := Hi0.out; subst this; rfl)) (by omega) (Hg.out.up hu8)⟩
     · (have d1 : (a : Int) < (k : Int) := by have := Hki.out; omega); rw [hl] at hn1; rw [hm] at hn2; have Hn1 := hid hn1; have Hn2 := hid hn2; clear hn1 hn2; (go_wp2_with (first | (go_at_call 9; have hx := Hn1.out; clear Hn1; go_must (refine (hx _).mono ?_; rintro e w2 ⟨rfl, hu⟩; have h0 := hu.cell_some h0; have h1 := hu.cell_some h1; have hz := Nat.lt_of_lt_of_le hz hu.size; have hp2 := Hp.out.up hu; have hg2 := Hg.out.up hu; have hf := hp2.fz 1; have Hp := hid hp2; have Hg := hid hg2; clear hp2 hg2 hu hx)) | (go_at_call 9; have hx := Hn2.out; clear Hn2; go_must (refine (hx _).mono ?_; rintro e w2 ⟨rfl, hu⟩; have h0 := hu.cell_some h0; have h1 := hu.cell_some h1; have hz := Nat.lt_of_lt_of_le hz hu.size; have hp2 := Hp.out.up hu; have hg2 := Hg.out.up hu; have hf := hp2.fz 1; have Hp := hid hp2; have Hg := hid hg2; clear hp2 hg2 hu hx)))); refine ⟨⟨k + 1, i + 1, by have := Hki.out; omega, by omega, by go_num, Hp.out, Hg.out, ext_part Hq.out Hpi.out (by rw [← Hc.out, partN, if_neg hi0]; exact hm)⟩, ?_⟩; simp [intOf]; omega
     · have Hcand := hid (cand_take (dr s a) i (by rw [dr_len]; have := Hki.out; omega) Hq.out (stop_part Hpi.out (by rw [← Hc.out, partN, if_neg hi0]; exact hm))); (have d1 : (a : Int) < (k : Int) := by have := Hki.out; omega); have Hi0 := hid hi0; rw [hl] at hn1; rw [hm] at hn2; have Hn1 := hid hn1; have Hn2 := hid hn2; clear hn1 hn2 hl hm; have e9 : ((k : Int) == (a : Int)) = false := by rw [beq_eq_false_iff_ne]; have := Hki.out; omega
       by_cases hbig : 16 < i
       · have e8 : decide ((16 : Int) < (k : Int) - (a : Int)) = true := decide_eq_true (by have := Hki.out; omega); (have e7 : (16 : Int) < (k : Int) - (a : Int) := by have := Hki.out; omega); (have e6 : IntKind.i64.wrap ((k : Int) - (a : Int)) = (k : Int) - (a : Int) := by rw [IntKind.wrap_i64]; omega); (go_wp2_with (first | (go_at_call 9; have hx := Hn1.out; clear Hn1; go_must (refine (hx _).mono ?_; rintro e w2 ⟨rfl, hu⟩; have h0 := hu.cell_some h0; have h1 := hu.cell_some h1; have hz := Nat.lt_of_lt_of_le hz hu.size; have hp2 := Hp.out.up hu; have hg2 := Hg.out.up hu; have hf := hp2.fz 1; have Hp := hid hp2; have Hg := hid hg2; clear hp2 hg2 hu hx)) | (go_at_call 9; have hx := Hn2.out; clear Hn2; go_must (refine (hx _).mono ?_; rintro e w2 ⟨rfl, hu⟩; have h0 := hu.cell_some h0; have h1 := hu.cell_some h1; have hz := Nat.lt_of_lt_of_le hz hu.size; have hp2 := Hp.out.up hu; have hg2 := Hg.out.up hu; have hf := hp2.fz 1; have Hp := hid hp2; have Hg := hid hg2; clear hp2 hg2 hu hx)) | (go_at_call 18; go_must (refine (fail_p g s a 7 _ Hp.out).mono ?_; rintro e w8 ⟨rfl, hu8⟩)))); have hl0 : (dr s a).length = s.size - a := dr_len s a; exact ⟨rfl, PEnd.of_bad (word_big Hd.out.symm Hcand.out (by have := Hki.out; omega) hbig) (by omega) (Hg.out.up hu8)⟩
       · have e8 : decide ((16 : Int) < (k : Int) - (a : Int)) = false := decide_eq_false (by have := Hki.out; omega); (have e7 : ¬ (16 : Int) < (k : Int) - (a : Int) := by have := Hki.out; omega); (have e6 : IntKind.i64.wrap ((k : Int) - (a : Int)) = (k : Int) - (a : Int) := by rw [IntKind.wrap_i64]; omega); have hsl2 := fun wx => sl_ab (s := s) (a := a) (k := k) (by have := Hki.out; omega) hk wx; go_wp2_with (first | (go_at_call 9; have hx := Hn1.out; clear Hn1; go_must (refine (hx _).mono ?_; rintro e w2 ⟨rfl, hu⟩; have h0 := hu.cell_some h0; have h1 := hu.cell_some h1; have hz := Nat.lt_of_lt_of_le hz hu.size; have hp2 := Hp.out.up hu; have hg2 := Hg.out.up hu; have hf := hp2.fz 1; have Hp := hid hp2; have Hg := hid hg2; clear hp2 hg2 hu hx)) | (go_at_call 9; have hx := Hn2.out; clear Hn2; go_must (refine (hx _).mono ?_; rintro e w2 ⟨rfl, hu⟩; have h0 := hu.cell_some h0; have h1 := hu.cell_some h1; have hz := Nat.lt_of_lt_of_le hz hu.size; have hp2 := Hp.out.up hu; have hg2 := Hg.out.up hu; have hf := hp2.fz 1; have Hp := hid hp2; have Hg := hid hg2; clear hp2 hg2 hu hx)))
         go_quiet (fail)
         go_wp2_with fail
         go_ret
         have hl0 : (dr s a).length = s.size - a := dr_len s a; refine PEnd.of_ok (word_ok Hd.out.symm Hcand.out (by have := Hki.out; omega) (by have := Hi0.out; omega) (by omega)) ?_ ⟨k, hk, ?_, (Hp.out.drewN _).set k⟩ ((Hg.out.drewN _).set _ _)
         · rw [ba_eq (dr_extract s a k), show k - a = i by have := Hki.out; omega]; rfl
         · rw [dr_drop, Hki.out]
   · have j1 : decide ((k : Int) < (s.size : Int)) = false := decide_eq_false (by omega); (have j2 : ¬ (k : Int) < (s.size : Int) := by omega); have hcand := hid (cand_take (dr s a) i (by rw [dr_len]; have := Hki.out; omega) Hq.out (fun h => by rw [dr_len] at h; have := Hki.out; omega)); have Hcand := hcand; clear hcand
     by_cases hi0 : i = 0
     · have Hi0 := hid hi0; (have e9 : ((k : Int) == (a : Int)) = true := by rw [beq_iff_eq]; have := Hki.out; omega); clear hi0; (go_wp2_with (first | (go_at_call 18; go_must (refine (fail_p g s a 2 _ Hp.out).mono ?_; rintro e w8 ⟨rfl, hu8⟩)))); have hl0 : (dr s a).length = s.size - a := dr_len s a; exact ⟨rfl, PEnd.of_bad (word_no Hd.out.symm (by rw [Hcand.out]; have := Hi0.out; subst this; rfl)) (by omega) (Hg.out.up hu8)⟩
     · have Hi0 := hid hi0; have e9 : ((k : Int) == (a : Int)) = false := by rw [beq_eq_false_iff_ne]; have := Hki.out; omega
       by_cases hbig : 16 < i
       · have e8 : decide ((16 : Int) < (k : Int) - (a : Int)) = true := decide_eq_true (by have := Hki.out; omega); (have e7 : (16 : Int) < (k : Int) - (a : Int) := by have := Hki.out; omega); (have e6 : IntKind.i64.wrap ((k : Int) - (a : Int)) = (k : Int) - (a : Int) := by rw [IntKind.wrap_i64]; omega); (go_wp2_with (first | (go_at_call 18; go_must (refine (fail_p g s a 7 _ Hp.out).mono ?_; rintro e w8 ⟨rfl, hu8⟩)))); have hl0 : (dr s a).length = s.size - a := dr_len s a; exact ⟨rfl, PEnd.of_bad (word_big Hd.out.symm Hcand.out (by have := Hki.out; omega) hbig) (by omega) (Hg.out.up hu8)⟩
       · have e8 : decide ((16 : Int) < (k : Int) - (a : Int)) = false := decide_eq_false (by have := Hki.out; omega); (have e7 : ¬ (16 : Int) < (k : Int) - (a : Int) := by have := Hki.out; omega); (have e6 : IntKind.i64.wrap ((k : Int) - (a : Int)) = (k : Int) - (a : Int) := by rw [IntKind.wrap_i64]; omega); have hsl2 := fun wx => sl_ab (s := s) (a := a) (k := k) (by have := Hki.out; omega) hk wx; go_wp2_with fail
         go_quiet (fail)
         go_wp2_with fail
         go_ret
         have hl0 : (dr s a).length = s.size - a := dr_len s a; refine PEnd.of_ok (word_ok Hd.out.symm Hcand.out (by have := Hki.out; omega) (by have := Hi0.out; omega) (by omega)) ?_ ⟨k, hk, ?_, (Hp.out.drewN _).set k⟩ ((Hg.out.drewN _).set _ _)
         · rw [ba_eq (dr_extract s a k), show k - a = i by have := Hki.out; omega]; rfl
         · rw [dr_drop, Hki.out]
set_option maxHeartbeats 1600000 in
theorem peek_p (g : Nat) (s : ByteArray) (k0 : Nat) (w : World) (hk0 : k0 ≤ s.size) (hz0 : s.size ≤ 4611686018427387904) (hp : PW g s k0 w) :
   Calls Tryd.prog 34 #[.pointer (some ⟨g, 0, none⟩)] w (PEnd g s w ((wordP (dr s k0)).bind fun a _ => .ok a (dr s k0)) (fun _ a v => v = .string ⟨a.toArray⟩)) := by
 have Hw := hid (word_p g s k0 w hk0 hz0 hp); have h1 := hp.c1; have hz := hp.lt; clear hp
 go_enter Tryd.func34, Tryd.ntmps34
 cases hr : wordP (dr s k0) with
 | ok a l =>
   go_wp2_with (first | (go_at_call 15; go_must (refine Hw.out.mono ?_; intro e w1 he; obtain ⟨v, rfl, rfl, ⟨k, hk, hd, hp⟩, hg⟩ := he.ok hr; clear h1; have h1 := hp.c1; have hf := hp.fz 1; have hz := hp.lt; have Hp := hid hp; clear hp hd)))
   go_ret
   exact ⟨_, rfl, rfl, ⟨k0, hk0, rfl, Hp.out.set k0⟩, hg.set _ _⟩
 | bad er l =>
   (go_wp2_with (first | (go_at_call 15; go_must (refine Hw.out.mono ?_; intro e w1 he; obtain ⟨rfl, hg⟩ := he.bad hr)))); exact ⟨rfl, rfl, hg⟩
end Go.Proofs.YtbceapeoknngnaaDoor
