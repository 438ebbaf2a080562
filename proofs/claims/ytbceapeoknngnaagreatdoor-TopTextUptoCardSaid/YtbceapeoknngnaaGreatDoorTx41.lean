/-
  The parser's word, peek.
  Layings of the library's contracts at this dump (made by the kit's program).
  What strconv.Atoi makes of digits.
-/
import Derived.Test.YtbceapeoknngnaaGreatDoorTx40
import Derived.Shelf.Strconv.AtoiAll
import Derived.Ground.NamesProg
set_option linter.unusedVariables false
namespace Go.Proofs.YtbceapeoknngnaaGreatDoor
open Go.RowKit
set_option maxRecDepth 100000
open Lib (hid)
theorem tw_take {α : Type} (p : α → Bool) : ∀ (L : List α) (i : Nat), i ≤ L.length → (∀ j (hj : j < L.length), j < i → p L[j] = true) → (∀ h : i < L.length, p L[i] = false) → L.takeWhile p = L.take i
 | [], i, hi, _, _ => by simp
 | c :: L, 0, _, _, h => by
   have := h (by simp); simp only [List.getElem_cons_zero] at this; rw [List.takeWhile_cons, this]; rfl
 | c :: L, i + 1, hi, h1, h2 => by
   have h0 := h1 0 (by simp) (by omega); simp only [List.getElem_cons_zero] at h0; rw [List.takeWhile_cons, if_pos h0, List.take_succ_cons, tw_take p L i (by simpa using hi) (fun j hj hji => by have := h1 (j + 1) (by simpa using hj) (by omega); simpa using this) (fun h => by have := h2 (by simpa using h); simpa using this)]
theorem more_of_letter {c : Nat} (h : letterN c = true) : moreN c = true := by
 unfold letterN at h; unfold moreN; rw [decide_eq_true_eq] at h ⊢; omega
theorem cand_take (L : List UInt8) (i : Nat) (hi : i ≤ L.length) (h1 : ∀ j (hj : j < L.length), j < i → partN j L[j].toNat = true) (h2 : ∀ h : i < L.length, partN i L[i].toNat = false) : candP L = L.take i := by
 cases L with
 | nil => simp [candP]
 | cons c l =>
   show (if letterB c = true then (c :: l).takeWhile moreB else []) = _
   cases i with
   | zero =>
     have h := h2 (by simp); simp only [List.getElem_cons_zero, partN, if_true] at h; rw [show letterB c = false from h]; rfl
   | succ i =>
     have h := h1 0 (by simp) (by omega); simp only [List.getElem_cons_zero, partN, if_true] at h; rw [if_pos (show letterB c = true from h)]; refine tw_take moreB _ _ hi (fun j hj hji => ?_) (fun h => ?_)
     · have := h1 j hj hji; unfold partN at this; split at this
       · exact more_of_letter this
       · exact this
     · have := h2 h; rw [partN, if_neg (by omega)] at this; exact this
theorem ext_part {L : List UInt8} {i : Nat} {c : UInt8} (q : ∀ j (hj : j < L.length), j < i → partN j L[j].toNat = true) (hi : L[i]? = some c) (hc : partN i c.toNat = true) : ∀ j (hj : j < L.length), j < i + 1 → partN j L[j].toNat = true := by
 intro j hj hji
 by_cases e : j = i
 · subst e; rw [List.getElem?_eq_getElem hj] at hi; rw [Option.some.inj hi]; exact hc
 · exact q j hj (by omega)
theorem stop_part {L : List UInt8} {i : Nat} {c : UInt8} (hi : L[i]? = some c) (hc : partN i c.toNat = false) : ∀ h : i < L.length, partN i L[i].toNat = false := by
 intro hj; rw [List.getElem?_eq_getElem hj] at hi; rw [Option.some.inj hi]; exact hc
theorem sl_1 {s : ByteArray} {k : Nat} (h : k < s.size) (wx : World) : (Instr.slice 9 (.string s) (some (.int .i64 (k : Int))) (some (.int .i64 ((k : Int) + 1))) none).run Tryz.prog wx = .ok (.string (s.extract k (k + 1))) wx := by
 have h := run_slice_string (P := Tryz.prog) wx 9 s .i64 .i64 (k : Int) ((k : Int) + 1) Tryz.underlying9 (by omega) (by omega) (by omega); rw [show ((k : Int) + 1).toNat = k + 1 by omega, show (k : Int).toNat = k by omega] at h; exact h
theorem sl_ab {s : ByteArray} {a k : Nat} (h : a ≤ k) (hk : k ≤ s.size) (wx : World) : (Instr.slice 9 (.string s) (some (.int .i64 (a : Int))) (some (.int .i64 (k : Int))) none).run Tryz.prog wx = .ok (.string (s.extract a k)) wx := by
 have h := run_slice_string (P := Tryz.prog) wx 9 s .i64 .i64 (a : Int) (k : Int) Tryz.underlying9 (by omega) (by omega) (by omega); rw [show (k : Int).toNat = k by omega, show (a : Int).toNat = a by omega] at h; exact h
theorem word_no {L : List UInt8} {l : List UInt8} (hl : skip l = L) (h : candP L = []) : wordP l = .bad 2 L := by unfold wordP; rw [hl, if_pos h]
theorem word_big {L : List UInt8} {l : List UInt8} {i : Nat} (hl : skip l = L) (h : candP L = L.take i) (hi : i ≤ L.length) (h0 : 16 < i) : wordP l = .bad 7 L := by
 (have hlen : (L.take i).length = i := by rw [List.length_take]; omega); unfold wordP; rw [hl, h, if_neg (fun e => by rw [e] at hlen; simp at hlen; omega), if_pos (by omega)]
theorem word_ok {L : List UInt8} {l : List UInt8} {i : Nat} (hl : skip l = L) (h : candP L = L.take i) (hi : i ≤ L.length) (h0 : 0 < i) (h1 : i ≤ 16) : wordP l = .ok (L.take i) (L.drop i) := by
 (have hlen : (L.take i).length = i := by rw [List.length_take]; omega); unfold wordP; rw [hl, h, if_neg (fun e => by rw [e] at hlen; simp at hlen; omega), if_neg (by omega), hlen]
theorem ba_eq {b : ByteArray} {l : List UInt8} (h : b.data.toList = l) : b = ⟨l.toArray⟩ := by
 subst h; rfl
theorem dr_ext1 {s : ByteArray} {k : Nat} (h : k < s.size) : (s.extract k (k + 1)).data.toList = [s[k]] := by
 rw [dr_extract, dr_cons h, show k + 1 - k = 1 by omega]; rfl
theorem named_1 (c : UInt8) : named [c] = letterN c.toNat := by
 unfold named; simp [partN, List.range_succ]
theorem named_a (c : UInt8) : named [97, c] = moreN c.toNat := by
 unfold named; simp [List.range_succ, partN]; exact fun _ => by decide
set_option maxHeartbeats 3200000 in
theorem word_p (g : Nat) (s : ByteArray) (k0 : Nat) (w : World) (hk0 : k0 ≤ s.size) (hz0 : s.size ≤ 4611686018427387904) (hp : PW g s k0 w) :
   Calls Tryz.prog 75 #[.pointer (some ⟨g, 0, none⟩)] w (PEnd g s w (wordP (dr s k0)) (fun _ a v => v = .string ⟨a.toArray⟩)) := by
 have Hb := hid (blank_p g s k0 w hk0 hz0 hp); clear hp
 go_enter Tryz.func75, Tryz.ntmps75
 (go_wp2_with (first | (go_at_call 74; go_must (refine Hb.out.mono ?_; rintro e w1 ⟨rfl, ⟨a, ha, hd, hp⟩, hg⟩; have h0 := hp.c0; have h1 := hp.c1; have hf := hp.fz 1; have hz := hp.lt; have Hp := hid hp; have Hg := hid hg; have Hd := hid hd; clear hp hg hd Hb)))); (go_loopw [3] (fun x wr => ∃ k i : Nat, k = a + i ∧ k ≤ s.size ∧ x = .int .i64 k ∧ PW g s a wr ∧ Gr g w wr ∧ ∀ j (hj : j < (dr s a).length), j < i → partN j (dr s a)[j].toNat = true) (fun x _ => s.size - (intOf x).toNat)); case atStart => exact ⟨a, 0, by omega, ha, rfl, Hp.out, Hg.out, fun j _ h => absurd h (by omega)⟩
 case round =>
   obtain ⟨k, i, hki, hk, rfl, hp, hg, hq⟩ := hrel; clear h0 h1 hf hz Hp Hg; have h0 := hp.c0; have h1 := hp.c1; have hf := hp.fz 1; have hz := hp.lt; have Hp := hid hp; have Hg := hid hg; have Hq := hid hq; have Hki := hid hki; clear hp hg hq hki
   by_cases hlt : k < s.size
   · (have i1 : (k : Int) < (s.size : Int) := by omega); have j1 : decide ((k : Int) < (s.size : Int)) = true := decide_eq_true i1; have hsl := fun wx => sl_1 hlt wx; have hn1 := fun w => named_s (s.extract k (k + 1)) w; have hn2 := fun w => named_s ((⟨#[97]⟩ : ByteArray) ++ s.extract k (k + 1)) w
     have e2 : ((⟨#[97]⟩ : ByteArray) ++ s.extract k (k + 1)).data.toList = [97, s[k]] := by
       rw [ByteArray.data_append, Array.toList_append, dr_ext1 hlt]; rfl
     rw [dr_ext1 hlt, named_1] at hn1; rw [e2, named_a] at hn2
     have Hpi := hid (show (dr s a)[i]? = some s[k] from by
       have h := dr_at (s := s) (k := a) (i := i) (by have := Hki.out; omega); have hlen : k = a + i := Hki.out; subst hlen; exact h)
     clear e2; have hlm : letterN s[k].toNat = true → moreN s[k].toNat = true := more_of_letter; have Hlm := hid hlm; clear hlm; obtain ⟨c, hc⟩ : ∃ c, c = s[k].toNat := ⟨_, rfl⟩; rw [← hc] at hn1 hn2 Hlm; have Hc := hid hc; clear hc
     have hcs : letterN c = true ∨ (letterN c = false ∧ i = 0) ∨ (letterN c = false ∧ i ≠ 0 ∧ moreN c = true) ∨ (letterN c = false ∧ i ≠ 0 ∧ moreN c = false) := by
       cases letterN c <;> cases moreN c <;> simp <;> omega
     rcases hcs with hl | ⟨hl, hi0⟩ | ⟨hl, hi0, hm⟩ | ⟨hl, hi0, hm⟩
     · rw [hl] at hn1; have Hn1 := hid hn1; clear hn1 hn2; (go_wp2_with (first | (go_at_call 121; have hx := Hn1.out; clear Hn1; go_must (refine (hx _).mono ?_; rintro e w2 ⟨rfl, hu⟩; have h0 := hu.cell_some h0; have h1 := hu.cell_some h1; have hz := Nat.lt_of_lt_of_le hz hu.size; have hp2 := Hp.out.up hu; have hg2 := Hg.out.up hu; have hf := hp2.fz 1; have Hp := hid hp2; have Hg := hid hg2; clear hp2 hg2 hu hx)))); (refine ⟨⟨k + 1, i + 1, by have := Hki.out; omega, by omega, by go_num, Hp.out, Hg.out, ext_part Hq.out Hpi.out (by rw [← Hc.out, partN]; split; exact hl; exact Hlm.out hl)⟩, ?_⟩); simp [intOf]; omega
     · have Hka := hid (show k = a from by have := Hki.out; omega); have Hcand := hid (cand_take (dr s a) i (by rw [dr_len]; have := Hki.out; omega) Hq.out (stop_part Hpi.out (by rw [← Hc.out, partN, if_pos hi0]; exact hl))); have Hi0 := hid hi0; clear hi0; (have e9 : ((k : Int) == (a : Int)) = true := by rw [beq_iff_eq]; have := Hka.out; omega); (have d1 : ¬ (a : Int) < (k : Int) := by have := Hka.out; omega); rw [hl] at hn1; have Hn1 := hid hn1; clear hn1 hn2 hl; (go_wp2_with (first | (go_at_call 121; have hx := Hn1.out; clear Hn1; go_must (refine (hx _).mono ?_; rintro e w2 ⟨rfl, hu⟩; have h0 := hu.cell_some h0; have h1 := hu.cell_some h1; have hz := Nat.lt_of_lt_of_le hz hu.size; have hp2 := Hp.out.up hu; have hg2 := Hg.out.up hu; have hf := hp2.fz 1; have Hp := hid hp2; have Hg := hid hg2; clear hp2 hg2 hu hx)) | (go_at_call 78; go_must (refine (fail_p g s a 2 _ Hp.out).mono ?_; rintro e w8 ⟨rfl, hu8⟩)))); have hl0 : (dr s a).length = s.size - a := dr_len s a; exact ⟨rfl, PEnd.of_bad (word_no Hd.out.symm (by rw [Hcand.out]; have := Hi0.out; subst this; rfl)) (by omega) (Hg.out.up hu8)⟩
     · (have d1 : (a : Int) < (k : Int) := by have := Hki.out; omega); rw [hl] at hn1; rw [hm] at hn2; have Hn1 := hid hn1; have Hn2 := hid hn2; clear hn1 hn2; (go_wp2_with (first | (go_at_call 121; have hx := Hn1.out; clear Hn1; go_must (refine (hx _).mono ?_; rintro e w2 ⟨rfl, hu⟩; have h0 := hu.cell_some h0; have h1 := hu.cell_some h1; have hz := Nat.lt_of_lt_of_le hz hu.size; have hp2 := Hp.out.up hu; have hg2 := Hg.out.up hu; have hf := hp2.fz 1; have Hp := hid hp2; have Hg := hid hg2; clear hp2 hg2 hu hx)) | (go_at_call 121; have hx := Hn2.out; clear Hn2; go_must (refine (hx _).mono ?_; rintro e w2 ⟨rfl, hu⟩; have h0 := hu.cell_some h0; have h1 := hu.cell_some h1; have hz := Nat.lt_of_lt_of_le hz hu.size; have hp2 := Hp.out.up hu; have hg2 := Hg.out.up hu; have hf := hp2.fz 1; have Hp := hid hp2; have Hg := hid hg2; clear hp2 hg2 hu hx)))); refine ⟨⟨k + 1, i + 1, by have := Hki.out; omega, by omega, by go_num, Hp.out, Hg.out, ext_part Hq.out Hpi.out (by rw [← Hc.out, partN, if_neg hi0]; exact hm)⟩, ?_⟩; simp [intOf]; omega
     · have Hcand := hid (cand_take (dr s a) i (by rw [dr_len]; have := Hki.out; omega) Hq.out (stop_part Hpi.out (by rw [← Hc.out, partN, if_neg hi0]; exact hm))); (have d1 : (a : Int) < (k : Int) := by have := Hki.out; omega); have Hi0 := hid hi0; rw [hl] at hn1; rw [hm] at hn2; have Hn1 := hid hn1; have Hn2 := hid hn2; clear hn1 hn2 hl hm; have e9 : ((k : Int) == (a : Int)) = false := by rw [beq_eq_false_iff_ne]; have := Hki.out; omega
       by_cases hbig : 16 < i
       · have e8 : decide ((16 : Int) < (k : Int) - (a : Int)) = true := decide_eq_true (by have := Hki.out; omega); (have e7 : (16 : Int) < (k : Int) - (a : Int) := by have := Hki.out; omega); (have e6 : IntKind.i64.wrap ((k : Int) - (a : Int)) = (k : Int) - (a : Int) := by rw [IntKind.wrap_i64]; omega); (go_wp2_with (first | (go_at_call 121; have hx := Hn1.out; clear Hn1; go_must (refine (hx _).mono ?_; rintro e w2 ⟨rfl, hu⟩; have h0 := hu.cell_some h0; have h1 := hu.cell_some h1; have hz := Nat.lt_of_lt_of_le hz hu.size; have hp2 := Hp.out.up hu; have hg2 := Hg.out.up hu; have hf := hp2.fz 1; have Hp := hid hp2; have Hg := hid hg2; clear hp2 hg2 hu hx)) | (go_at_call 121; have hx := Hn2.out; clear Hn2; go_must (refine (hx _).mono ?_; rintro e w2 ⟨rfl, hu⟩; have h0 := hu.cell_some h0; have h1 := hu.cell_some h1; have hz := Nat.lt_of_lt_of_le hz hu.size; have hp2 := Hp.out.up hu; have hg2 := Hg.out.up hu; have hf := hp2.fz 1; have Hp := hid hp2; have Hg := hid hg2; clear hp2 hg2 hu hx)) | (go_at_call 78; go_must (refine (fail_p g s a 7 _ Hp.out).mono ?_; rintro e w8 ⟨rfl, hu8⟩)))); have hl0 : (dr s a).length = s.size - a := dr_len s a; exact ⟨rfl, PEnd.of_bad (word_big Hd.out.symm Hcand.out (by have := Hki.out; omega) hbig) (by omega) (Hg.out.up hu8)⟩
       · have e8 : decide ((16 : Int) < (k : Int) - (a : Int)) = false := decide_eq_false (by have := Hki.out; omega); (have e7 : ¬ (16 : Int) < (k : Int) - (a : Int) := by have := Hki.out; omega); (have e6 : IntKind.i64.wrap ((k : Int) - (a : Int)) = (k : Int) - (a : Int) := by rw [IntKind.wrap_i64]; omega); have hsl2 := fun wx => sl_ab (s := s) (a := a) (k := k) (by have := Hki.out; omega) hk wx; go_wp2_with (first | (go_at_call 121; have hx := Hn1.out; clear Hn1; go_must (refine (hx _).mono ?_; rintro e w2 ⟨rfl, hu⟩; have h0 := hu.cell_some h0; have h1 := hu.cell_some h1; have hz := Nat.lt_of_lt_of_le hz hu.size; have hp2 := Hp.out.up hu; have hg2 := Hg.out.up hu; have hf := hp2.fz 1; have Hp := hid hp2; have Hg := hid hg2; clear hp2 hg2 hu hx)) | (go_at_call 121; have hx := Hn2.out; clear Hn2; go_must (refine (hx _).mono ?_; rintro e w2 ⟨rfl, hu⟩; have h0 := hu.cell_some h0; have h1 := hu.cell_some h1; have hz := Nat.lt_of_lt_of_le hz hu.size; have hp2 := Hp.out.up hu; have hg2 := Hg.out.up hu; have hf := hp2.fz 1; have Hp := hid hp2; have Hg := hid hg2; clear hp2 hg2 hu hx)))
         go_quiet (fail)
         go_wp2_with fail
         go_ret
         have hl0 : (dr s a).length = s.size - a := dr_len s a; refine PEnd.of_ok (word_ok Hd.out.symm Hcand.out (by have := Hki.out; omega) (by have := Hi0.out; omega) (by omega)) ?_ ⟨k, hk, ?_, (Hp.out.drewN _).set k⟩ ((Hg.out.drewN _).set _ _)
         · rw [ba_eq (dr_extract s a k), show k - a = i by have := Hki.out; omega]; rfl
         · rw [dr_drop, Hki.out]
   · have j1 : decide ((k : Int) < (s.size : Int)) = false := decide_eq_false (by omega); (have j2 : ¬ (k : Int) < (s.size : Int) := by omega); have hcand := hid (cand_take (dr s a) i (by rw [dr_len]; have := Hki.out; omega) Hq.out (fun h => by rw [dr_len] at h; have := Hki.out; omega)); have Hcand := hcand; clear hcand
     by_cases hi0 : i = 0
     · have Hi0 := hid hi0; (have e9 : ((k : Int) == (a : Int)) = true := by rw [beq_iff_eq]; have := Hki.out; omega); clear hi0; (go_wp2_with (first | (go_at_call 78; go_must (refine (fail_p g s a 2 _ Hp.out).mono ?_; rintro e w8 ⟨rfl, hu8⟩)))); have hl0 : (dr s a).length = s.size - a := dr_len s a; exact ⟨rfl, PEnd.of_bad (word_no Hd.out.symm (by rw [Hcand.out]; have := Hi0.out; subst this; rfl)) (by omega) (Hg.out.up hu8)⟩
     · have Hi0 := hid hi0; have e9 : ((k : Int) == (a : Int)) = false := by rw [beq_eq_false_iff_ne]; have := Hki.out; omega
       by_cases hbig : 16 < i
       · have e8 : decide ((16 : Int) < (k : Int) - (a : Int)) = true := decide_eq_true (by have := Hki.out; omega); (have e7 : (16 : Int) < (k : Int) - (a : Int) := by have := Hki.out; omega); (have e6 : IntKind.i64.wrap ((k : Int) - (a : Int)) = (k : Int) - (a : Int) := by rw [IntKind.wrap_i64]; omega); (go_wp2_with (first | (go_at_call 78; go_must (refine (fail_p g s a 7 _ Hp.out).mono ?_; rintro e w8 ⟨rfl, hu8⟩)))); have hl0 : (dr s a).length = s.size - a := dr_len s a; exact ⟨rfl, PEnd.of_bad (word_big Hd.out.symm Hcand.out (by have := Hki.out; omega) hbig) (by omega) (Hg.out.up hu8)⟩
       · have e8 : decide ((16 : Int) < (k : Int) - (a : Int)) = false := decide_eq_false (by have := Hki.out; omega); (have e7 : ¬ (16 : Int) < (k : Int) - (a : Int) := by have := Hki.out; omega); (have e6 : IntKind.i64.wrap ((k : Int) - (a : Int)) = (k : Int) - (a : Int) := by rw [IntKind.wrap_i64]; omega); have hsl2 := fun wx => sl_ab (s := s) (a := a) (k := k) (by have := Hki.out; omega) hk wx; go_wp2_with fail
         go_quiet (fail)
         go_wp2_with fail
         go_ret
         have hl0 : (dr s a).length = s.size - a := dr_len s a; refine PEnd.of_ok (word_ok Hd.out.symm Hcand.out (by have := Hki.out; omega) (by have := Hi0.out; omega) (by omega)) ?_ ⟨k, hk, ?_, (Hp.out.drewN _).set k⟩ ((Hg.out.drewN _).set _ _)
         · rw [ba_eq (dr_extract s a k), show k - a = i by have := Hki.out; omega]; rfl
         · rw [dr_drop, Hki.out]
set_option maxHeartbeats 1600000 in
theorem peek_p (g : Nat) (s : ByteArray) (k0 : Nat) (w : World) (hk0 : k0 ≤ s.size) (hz0 : s.size ≤ 4611686018427387904) (hp : PW g s k0 w) :
   Calls Tryz.prog 142 #[.pointer (some ⟨g, 0, none⟩)] w (PEnd g s w ((wordP (dr s k0)).bind fun a _ => .ok a (dr s k0)) (fun _ a v => v = .string ⟨a.toArray⟩)) := by
 have Hw := hid (word_p g s k0 w hk0 hz0 hp); have h1 := hp.c1; have hz := hp.lt; clear hp
 go_enter Tryz.func142, Tryz.ntmps142
 cases hr : wordP (dr s k0) with
 | ok a l =>
   go_wp2_with (first | (go_at_call 75; go_must (refine Hw.out.mono ?_; intro e w1 he; obtain ⟨v, rfl, rfl, ⟨k, hk, hd, hp⟩, hg⟩ := he.ok hr; clear h1; have h1 := hp.c1; have hf := hp.fz 1; have hz := hp.lt; have Hp := hid hp; clear hp hd)))
   go_ret
   exact ⟨_, rfl, rfl, ⟨k0, hk0, rfl, Hp.out.set k0⟩, hg.set _ _⟩
 | bad er l =>
   (go_wp2_with (first | (go_at_call 75; go_must (refine Hw.out.mono ?_; intro e w1 he; obtain ⟨rfl, hg⟩ := he.bad hr)))); exact ⟨rfl, rfl, hg⟩
end Go.Proofs.YtbceapeoknngnaaGreatDoor
namespace Go.Proofs
open Go.Shelf
def Tryz.atoiL_ren : Go.Shelf.Ren := ⟨fun | 172 => 186 | 244 => 197 | 245 => 198 | 247 => 200 | 279 => 201 | 280 => 202 | 281 => 203 | 282 => 204 | 287 => 205 | 316 => 206 | 171 => 208 | 205 => 207 | 321 => 209 | 322 => 210 | 243 => 211 | 246 => 212 | 283 => 213 | 284 => 214 | 285 => 215 | 286 => 216 | 129 => 159 | 317 => 217 | 318 => 218 | 319 => 219 | 320 => 220 | 337 => 221 | 338 => 222 | n => n, fun | 9 => 9 | 3 => 3 | 75 => 257 | 76 => 258 | 4 => 4 | 5 => 5 | 167 => 274 | 37 => 32 | 0 => 0 | 85 => 275 | 2 => 2 | 168 => 277 | 53 => 54 | 175 => 280 | 46 => 120 | 210 => 284 | 127 => 288 | 145 => 291 | 143 => 289 | 21 => 21 | 171 => 293 | 173 => 295 | 212 => 298 | 51 => 229 | 20 => 20 | 213 => 299 | 232 => 300 | 233 => 301 | 80 => 155 | n => n, fun | 15 => 2 | 16 => 3 | 17 => 4 | 18 => 5 | 19 => 6 | n => n⟩
theorem Tryz.atoiL : Go.Proofs.LaysC.n172 Tryz.prog Tryz.atoiL_ren := {
 mixed := by kernel_rfl
 f129 := Tryz.func159.trans (congrArg some (by kernel_rfl))
 f171 := Tryz.func208.trans (congrArg some (by kernel_rfl))
 f172 := Tryz.func186.trans (congrArg some (by kernel_rfl))
 f205 := Tryz.func207.trans (congrArg some (by kernel_rfl))
 f243 := Tryz.func211.trans (congrArg some (by kernel_rfl))
 f244 := Tryz.func197.trans (congrArg some (by kernel_rfl))
 f245 := Tryz.func198.trans (congrArg some (by kernel_rfl))
 f246 := Tryz.func212.trans (congrArg some (by kernel_rfl))
 f247 := Tryz.func200.trans (congrArg some (by kernel_rfl))
 f279 := Tryz.func201.trans (congrArg some (by kernel_rfl))
 f280 := Tryz.func202.trans (congrArg some (by kernel_rfl))
 f281 := Tryz.func203.trans (congrArg some (by kernel_rfl))
 f282 := Tryz.func204.trans (congrArg some (by kernel_rfl))
 f283 := Tryz.func213.trans (congrArg some (by kernel_rfl))
 f284 := Tryz.func214.trans (congrArg some (by kernel_rfl))
 f285 := Tryz.func215.trans (congrArg some (by kernel_rfl))
 f286 := Tryz.func216.trans (congrArg some (by kernel_rfl))
 f287 := Tryz.func205.trans (congrArg some (by kernel_rfl))
 f316 := Tryz.func206.trans (congrArg some (by kernel_rfl))
 f317 := Tryz.func217.trans (congrArg some (by kernel_rfl))
 f318 := Tryz.func218.trans (congrArg some (by kernel_rfl))
 f319 := Tryz.func219.trans (congrArg some (by kernel_rfl))
 f320 := Tryz.func220.trans (congrArg some (by kernel_rfl))
 f321 := Tryz.func209.trans (congrArg some (by kernel_rfl))
 f322 := Tryz.func210.trans (congrArg some (by kernel_rfl))
 f337 := Tryz.func221.trans (congrArg some (by kernel_rfl))
 f338 := Tryz.func222.trans (congrArg some (by kernel_rfl))
 t0 := Tryz.underlying0
 a0 := Tryz.isAgg0
 z0 := Tryz.sizeOf0
 v0 := Tryz.zeroValue0
 t2 := Tryz.underlying2
 a2 := Tryz.isAgg2
 z2 := Tryz.sizeOf2
 v2 := Tryz.zeroValue2
 t3 := Tryz.underlying3
 a3 := Tryz.isAgg3
 z3 := Tryz.sizeOf3
 v3 := Tryz.zeroValue3
 t4 := Tryz.underlying4
 a4 := Tryz.isAgg4
 z4 := Tryz.sizeOf4
 v4 := Tryz.zeroValue4
 t5 := Tryz.underlying5
 a5 := Tryz.isAgg5
 z5 := Tryz.sizeOf5
 v5 := Tryz.zeroValue5
 t9 := Tryz.underlying9
 a9 := Tryz.isAgg9
 z9 := Tryz.sizeOf9
 v9 := Tryz.zeroValue9
 t20 := Tryz.underlying20
 a20 := Tryz.isAgg20
 z20 := Tryz.sizeOf20
 v20 := Tryz.zeroValue20
 t21 := Tryz.underlying21
 a21 := Tryz.isAgg21
 z21 := Tryz.sizeOf21
 v21 := Tryz.zeroValue21
 t37 := Tryz.underlying32
 a37 := Tryz.isAgg32
 z37 := Tryz.sizeOf32
 v37 := Tryz.zeroValue32
 t46 := Tryz.underlying120
 a46 := Tryz.isAgg120
 z46 := Tryz.sizeOf120
 v46 := Tryz.zeroValue120
 t51 := Tryz.underlying229
 a51 := Tryz.isAgg229
 z51 := Tryz.sizeOf229
 v51 := Tryz.zeroValue229
 t53 := Tryz.underlying54
 a53 := Tryz.isAgg54
 z53 := Tryz.sizeOf54
 v53 := Tryz.zeroValue54
 t75 := Tryz.underlying257
 a75 := Tryz.isAgg257
 z75 := Tryz.sizeOf257
 v75 := Tryz.zeroValue257
 t76 := Tryz.underlying258
 a76 := Tryz.isAgg258
 z76 := Tryz.sizeOf258
 v76 := Tryz.zeroValue258
 t85 := Tryz.underlying275
 a85 := Tryz.isAgg275
 z85 := Tryz.sizeOf275
 v85 := Tryz.zeroValue275
 t127 := Tryz.underlying288
 a127 := Tryz.isAgg288
 z127 := Tryz.sizeOf288
 v127 := Tryz.zeroValue288
 t143 := Tryz.underlying289
 a143 := Tryz.isAgg289
 z143 := Tryz.sizeOf289
 v143 := Tryz.zeroValue289
 t145 := Tryz.underlying291
 a145 := Tryz.isAgg291
 z145 := Tryz.sizeOf291
 v145 := Tryz.zeroValue291
 t167 := Tryz.underlying274
 a167 := Tryz.isAgg274
 z167 := Tryz.sizeOf274
 v167 := Tryz.zeroValue274
 t168 := Tryz.underlying277
 a168 := Tryz.isAgg277
 z168 := Tryz.sizeOf277
 v168 := Tryz.zeroValue277
 t171 := Tryz.underlying293
 a171 := Tryz.isAgg293
 z171 := Tryz.sizeOf293
 v171 := Tryz.zeroValue293
 t173 := Tryz.underlying295
 a173 := Tryz.isAgg295
 z173 := Tryz.sizeOf295
 v173 := Tryz.zeroValue295
 t175 := Tryz.underlying280
 a175 := Tryz.isAgg280
 z175 := Tryz.sizeOf280
 v175 := Tryz.zeroValue280
 t210 := Tryz.underlying284
 a210 := Tryz.isAgg284
 z210 := Tryz.sizeOf284
 v210 := Tryz.zeroValue284
 t212 := Tryz.underlying298
 a212 := Tryz.isAgg298
 z212 := Tryz.sizeOf298
 v212 := Tryz.zeroValue298
 t213 := Tryz.underlying299
 a213 := Tryz.isAgg299
 z213 := Tryz.sizeOf299
 t232 := Tryz.underlying300
 a232 := Tryz.isAgg300
 z232 := Tryz.sizeOf300
 v232 := Tryz.zeroValue300
 t233 := Tryz.underlying301
 a233 := Tryz.isAgg301
 z233 := Tryz.sizeOf301
 v233 := Tryz.zeroValue301
 g15 := by kernel_rfl
 g16 := by kernel_rfl
 g17 := by kernel_rfl
 g18 := by kernel_rfl
 g19 := by kernel_rfl
 t80 := Tryz.underlying155
 a80 := Tryz.isAgg155
 z80 := Tryz.sizeOf155
 v80 := Tryz.zeroValue155
 i0 := by kernel_rfl
 i2 := by kernel_rfl
 i3 := by kernel_rfl
 i4 := by kernel_rfl
 i5 := by kernel_rfl
 i9 := by kernel_rfl
 i20 := by kernel_rfl
 i21 := by kernel_rfl
 i37 := by kernel_rfl
 i46 := by kernel_rfl
 i51 := by kernel_rfl
 i53 := by kernel_rfl
 i75 := by kernel_rfl
 i76 := by kernel_rfl
 i80 := by kernel_rfl
 i85 := by kernel_rfl
 i127 := by kernel_rfl
 i143 := by kernel_rfl
 i145 := by kernel_rfl
 i167 := by kernel_rfl
 i168 := by kernel_rfl
 i171 := by kernel_rfl
 i173 := by kernel_rfl
 i175 := by kernel_rfl
 i210 := by kernel_rfl
 i212 := by kernel_rfl
 i232 := by kernel_rfl
 i233 := by kernel_rfl
 m15 := by kernel_rfl
 m16 := by kernel_rfl
 m17 := by kernel_rfl
 m18 := by kernel_rfl
 m19 := by kernel_rfl
 c0 := by kernel_rfl
 c2 := by kernel_rfl
 c3 := by kernel_rfl
 c4 := by kernel_rfl
 c5 := by kernel_rfl
 c9 := by kernel_rfl
 c20 := by kernel_rfl
 c21 := by kernel_rfl
 c37 := by kernel_rfl
 c46 := by kernel_rfl
 c51 := by kernel_rfl
 c53 := by kernel_rfl
 c75 := by kernel_rfl
 c76 := by kernel_rfl
 c80 := by kernel_rfl
 c85 := by kernel_rfl
 c127 := by kernel_rfl
 c143 := by kernel_rfl
 c145 := by kernel_rfl
 c167 := by kernel_rfl
 c168 := by kernel_rfl
 c171 := by kernel_rfl
 c173 := by kernel_rfl
 c175 := by kernel_rfl
 c210 := by kernel_rfl
 c212 := by kernel_rfl
 c213 := by kernel_rfl
 c232 := by kernel_rfl
 c233 := by kernel_rfl }
end Go.Proofs
namespace Go.Proofs.YtbceapeoknngnaaGreatDoor
open Go.RowKit
def decF (n : Nat) (c : UInt8) : Nat := 10 * n + (c.toNat - 48)
theorem decV_eq (l : List UInt8) : decV l = l.foldl decF 0 := rfl
theorem dec_ge : ∀ (l : List UInt8) (n : Nat), n ≤ l.foldl decF n
 | [], n => Nat.le_refl _
 | c :: l, n => by
   rw [List.foldl_cons]; have := dec_ge l (decF n c); unfold decF at this ⊢; omega
theorem pu_dig : ∀ (l : List UInt8) (n : Nat), (∀ c ∈ l, digitB c = true) → n < 18446744073709551616 → Lib.parseUint10 n l = if l.foldl decF n < 18446744073709551616 then .ok (l.foldl decF n) else .range
 | [], n, _, h => by rw [List.foldl_nil, if_pos h]; rfl
 | c :: l, n, hd, h => by
   have hc := hd c (List.mem_cons_self ..); unfold digitB at hc; rw [decide_eq_true_eq] at hc; have hge := dec_ge l (decF n c); rw [Lib.parseUint10, if_pos hc, List.foldl_cons]; unfold decF at hge
   by_cases h1 : 1844674407370955162 ≤ n
   · rw [if_pos h1, if_neg (by unfold decF; omega)]
   · rw [if_neg h1]
     by_cases h2 : 18446744073709551616 ≤ n * 10 + (c.toNat - 48)
     · rw [if_pos h2, if_neg (by unfold decF; omega)]
     · rw [if_neg h2, pu_dig l _ (fun x hx => hd x (List.mem_cons_of_mem _ hx)) (by omega)]; unfold decF; rw [show n * 10 = 10 * n by omega]
theorem atoi_dig {d : List UInt8} (hd : ∀ c ∈ d, digitB c = true) (hn : d ≠ []) : Lib.atoiAll d = if decV d < 9223372036854775808 then .ok (decV d : Int) else .range := by
 cases d with
 | nil => exact absurd rfl hn
 | cons c r =>
   have hc := hd c (List.mem_cons_self ..); unfold digitB at hc; rw [decide_eq_true_eq] at hc; rw [Lib.atoiAll_plain c r (by omega) (by omega), Lib.parseMag, if_neg (by simp), pu_dig _ 0 hd (by omega), ← decV_eq]
   by_cases h : decV (c :: r) < 18446744073709551616
   · rw [if_pos h]
     by_cases h2 : decV (c :: r) < 9223372036854775808
     · rw [if_pos h2]; simp only [Lib.signless]; rw [if_neg (by omega)]
     · rw [if_neg h2]; simp only [Lib.signless]; rw [if_pos (by omega)]
   · rw [if_neg h, if_neg (by omega)]; rfl
def EvR (w : World) : Prop := ∃ tp p, w.cell? ⟨3, 0, none⟩ = some (.iface tp p)
theorem EvR.up {w w' : World} (h : EvR w) (hu : Up w w') : EvR w' := let ⟨t, p, hc⟩ := h; ⟨t, p, hu.cell_some hc⟩
theorem EvR.gr {g : Nat} {w w' : World} (h : EvR w) (hg : Gr g w w') (hne : 3 < g) : EvR w' := by
 obtain ⟨t, p, hc⟩ := h; exact ⟨t, p, World.grownBy.cell hg hc (fun e => by injection e with e; simp only at e; omega)⟩
theorem atoi_p (s : ByteArray) (hs : s.size ≤ 4611686018427) (hd : ∀ c ∈ s.data.toList, digitB c = true) (hn : s.data.toList ≠ []) (w : World) (hev : EvR w) :
   Calls Tryz.prog 186 #[.string s] w fun e w' => (∃ n er, e = .returned (.tuple #[.int .i64 n, er]) ∧ ((decV s.data.toList < 9223372036854775808 ∧ n = (decV s.data.toList : Int) ∧ er = .nilIface) ∨ (9223372036854775808 ≤ decV s.data.toList ∧ ∃ t p, er = .iface t p))) ∧ Up w w' := by
 have ha := atoi_dig hd hn
 by_cases h : decV s.data.toList < 9223372036854775808
 · rw [if_pos h] at ha; refine (Any.strconv_Atoi_ok Tryz.atoiL s (by omega) _ ha w).mono ?_; rintro e w' ⟨rfl, hw⟩; refine ⟨⟨_, _, rfl, .inl ⟨h, rfl, rfl⟩⟩, ?_⟩; rcases hw with rfl | ⟨t, rfl⟩
   · exact Up.refl _
   · exact Lib.bytesWorld_below _ _ _
 · rw [if_neg h] at ha; obtain ⟨tp, p, hc⟩ := hev; refine (Any.strconv_Atoi_range Tryz.atoiL s (by omega) ha _ w hc (.inr ⟨_, _, rfl⟩)).mono ?_; rintro e w' ⟨N, rfl, _, _, hu⟩; exact ⟨⟨_, _, rfl, .inr ⟨by omega, _, _, rfl⟩⟩, hu⟩
end Go.Proofs.YtbceapeoknngnaaGreatDoor
