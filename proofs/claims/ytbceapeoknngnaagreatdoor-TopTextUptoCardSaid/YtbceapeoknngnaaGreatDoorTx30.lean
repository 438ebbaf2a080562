/-
  codec.numbers, of fixed sizes.
  codec.numbers, whole.
  (*reader).value, of numbers.
  (*reader).value, of what does not fit.
  (*reader).value, of bytes.
  (*reader).value, of a text.
-/
import Derived.Test.YtbceapeoknngnaaGreatDoorTx29
set_option linter.unusedVariables false
namespace Go.Proofs.YtbceapeoknngnaaGreatDoor
open Go.RowKit
set_option maxRecDepth 100000
open Lib (hid)
theorem headC_short {kind : Int} {l : List UInt8} {hw : Int} {s : Nat} (h : howC kind = hw) (hs : (hw = 5 ∧ s = 4) ∨ (hw = 1 ∧ s = 8)) (hl : l.length < s) : headC (howC kind) l = (0, 0, 2) := by
 unfold headC; rw [h]; rcases hs with ⟨rfl, rfl⟩ | ⟨rfl, rfl⟩ <;> simp [hl]
theorem headC_long {kind : Int} {l : List UInt8} {hw : Int} {s : Nat} (h : howC kind = hw) (hs : (hw = 5 ∧ s = 4) ∨ (hw = 1 ∧ s = 8)) (hl : ¬ l.length < s) : headC (howC kind) l = (lowVal (l.take s), s, 0) := by
 unfold headC; rw [h]; rcases hs with ⟨rfl, rfl⟩ | ⟨rfl, rfl⟩ <;> simp [hl]
set_option maxHeartbeats 800000 in
theorem numbers_fix (x : Fld) (r : Rec) (bf fo b o c3 : Nat) (a3 : Option Addr) (w : World) (hx : FldAt w bf fo x) (h1 : w.cell? ⟨b, o + 1, none⟩ = some (.int .i64 r.how)) (h3 : w.cell? ⟨b, o + 3, none⟩ = some (.slice a3 r.bytes.length c3)) (hr : RdB All w (.slice a3 r.bytes.length c3) r.bytes) (hbl : r.bytes.length ≤ 1099511627776)
   (hh : r.how = 2) (hm : x.many = true) (hw : Int) (s : Nat) (hv : howC x.kind = hw) (hs : (hw = 5 ∧ s = 4) ∨ (hw = 1 ∧ s = 8)) :
   Calls Tryz.prog 134 #[.pointer (some ⟨bf, fo, none⟩), .pointer (some ⟨b, o, none⟩)] w fun e w' => ∃ v', e = .returned (.tuple #[v', .int .i64 (numbersC x r).2]) ∧ RdS DU64 1 (From w.heap.size) w' v' (numbersC x r).1 ∧ Up w w' := by
 obtain ⟨hxb, ⟨x0, x1, x2, x3, x4, x5⟩, hxd⟩ := hx; have hhw := how_c x.kind; (have hN : numbersC x r = packP x.kind (r.bytes.length + 1) r.bytes := by unfold numbersC; rw [hh, hv, hm, if_neg (by omega), if_neg (by simp)]); rw [hN]; rw [hv] at hhw; rw [hh] at h1; rw [hm] at x4; have Hhw := hid hhw; have Hr := hid hr; have X2 := hid x2; obtain ⟨ANS, hANS⟩ : ∃ ANS, packP x.kind (r.bytes.length + 1) r.bytes = ANS := ⟨_, rfl⟩; rw [hANS]
 have hA0 : combP [] (packP x.kind (r.bytes.length + 1) r.bytes) = ANS := by
   rw [hANS]
   have h0 : ∀ (f : Nat) (l : List UInt8), (packP x.kind f l).2 ≠ 0 → (packP x.kind f l).1 = [] := by
     intro f l h
     cases f with
     | zero => rfl
     | succ f =>
       rw [packP] at h ⊢; split
       · rfl
       · split
         · rfl
         · rename_i g1 g2; rw [if_neg g1, if_neg g2] at h; simp only at h ⊢; split
           · rfl
           · rename_i g3; rw [if_neg g3] at h; exact absurd rfl h
   have h1 := h0 (r.bytes.length + 1) r.bytes; rw [hANS] at h1; unfold combP; split
   · rename_i g; rw [← h1 g]
   · rename_i g; simp only [ne_eq, Decidable.not_not] at g; rw [List.nil_append, ← g]
 have HA0 := hid hA0; clear hN hA0 hANS hhw hr hh hm hxd x0 x1 x3 x5 hxb x2; obtain ⟨L, hL⟩ : ∃ L, r.bytes = L := ⟨_, rfl⟩; rw [hL] at h3 Hr HA0 hbl; clear hL; have x2 := X2.out
 go_enter Tryz.func134, Tryz.ntmps134
 (go_wp2_with (go_at_call 21; go_must (refine (Hhw.out _).mono ?_; rintro e w1 ⟨rfl, rfl⟩))); clear h1 h3 x4; (go_loopw [7, 8] (fun out left wr => ∃ (j : Nat) (acc : List Nat) (a : Option Addr) (c fu : Nat) (l : List UInt8), left = .slice a l.length c ∧ L.drop j = l ∧ j ≤ L.length ∧ l.length < fu ∧ RdB All w1 (.slice a l.length c) l ∧ wr.ownsRow w1.heap.size 54 1 out acc.length (U64s acc) ∧ acc.length ≤ j ∧ (∀ n ∈ acc, n < 18446744073709551616) ∧ combP acc (packP x.kind fu l) = ANS ∧ Up w1 wr) (fun _ left _ => lenV left)); case atStart => exact ⟨0, [], a3, c3, L.length + 1, L, rfl, rfl, by omega, by omega, Hr.out, World.ownsRow_nil _ _ _ _, by simp, by simp, HA0.out, Up.refl _⟩
 case round =>
   clear HA0; obtain ⟨j, acc, a, c, fu, l, rfl, hl, hj, hfu, hrb, how, hal, hac, hA, hup⟩ := hrel; have Hll := hid (show l.length = L.length - j by rw [← hl, List.length_drop]); obtain ⟨_, _, he, hc1, hc2⟩ := hrb.val; simp only [Value.slice.injEq, true_and] at he; obtain ⟨rfl, rfl⟩ := he; obtain ⟨fu, rfl⟩ : ∃ z, fu = z + 1 := ⟨fu - 1, by omega⟩; have y2 := hup.cell_some X2.out; have hz := hup.size; have How := hid how; have Hac := hid hac; have HA := hid hA; have Hup := hid hup; have Hl := hid hl; have Hrb := hid hrb; clear how hac hA hup hl hrb
   by_cases hpos : 0 < l.length
   · (have hne : l ≠ [] := fun e => by rw [e] at hpos; simp at hpos); have hpos2 : (0 : Int) < (l.length : Int) := by omega
     by_cases hlt : l.length < s
     · have hA := HA.out; rw [comb_bad acc hne (by rw [headC_short hv hs hlt]) (by decide)] at hA; rcases hs with ⟨rfl, rfl⟩ | ⟨rfl, rfl⟩
       · (have hms : (l.length : Int) < 4 := by omega); go_wp2_with fail
         go_ret2
         rw [← hA]; exact ⟨_, rfl, rdS_nil _ _ _ _, Hup.out⟩
       · (have hms : (l.length : Int) < 8 := by omega); go_wp2_with fail
         go_ret2
         rw [← hA]; exact ⟨_, rfl, rdS_nil _ _ _ _, Hup.out⟩
     · have hA := HA.out; rw [comb_more acc hne (headC_long hv hs hlt)] at hA
       have hlow : lowVal (l.take s) < 18446744073709551616 := by
         have h1 := lowVal_lt (l.take s); rw [List.length_take, Nat.min_eq_left (by omega)] at h1; rcases hs with ⟨_, rfl⟩ | ⟨_, rfl⟩ <;> omega
       have Hbk := hid (fun W => back_c x.kind (lowVal (l.take s)) W hlow); have Hb := hid (back_64 (k := x.kind) hlow); have HA2 := hid hA; clear hA HA hlow; obtain ⟨bk, hbk⟩ : ∃ bk, backC x.kind (lowVal (l.take s)) = bk := ⟨_, rfl⟩; rw [hbk] at HA2 Hb; have Hbk2 := hid (fun W => by have h := Hbk.out W; rw [hbk] at h; exact h); clear hbk Hbk; rcases hs with ⟨rfl, rfl⟩ | ⟨rfl, rfl⟩
       · (have hms : ¬ ((l.length : Int) < 4) := by omega); (have hms2 : (4 : Int) ≤ (l.length : Int) := by omega); (have hms3 : 4 ≤ l.length := by omega); obtain ⟨bb, oo, rfl, _⟩ := RdB.cell Hrb.out (i := 0) hpos
         have HB2 := hid (show ∀ n ∈ acc ++ [bk], n < 18446744073709551616 from fun z hz => by
           rcases List.mem_append.1 hz with h | h
           · exact Hac.out z h
           · simp at h; subst h; exact Hb.out)
         go_upto_region 21 with (fail)
         go_loop [9, 82] (fun n i => ∃ q : Nat, q ≤ 4 ∧ i = .int .i64 q ∧ n = .int .u64 (lowVal (l.take q))) (fun _ i => 4 - (intOf i).toNat)
         case atStart => exact ⟨0, by omega, rfl, rfl⟩
         case round =>
           obtain ⟨q, hq, rfl, rfl⟩ := hrel
           by_cases hlq : q < 4
           · obtain ⟨b', o', he, hcell⟩ := RdB.cell (Hrb.out.up stable_u8 Hup.out) (i := q) (by omega); simp only [Option.some.injEq, Addr.mk.injEq, and_true] at he; obtain ⟨rfl, rfl⟩ := he
             have hs : lowVal (l.take (q + 1)) = lowVal (l.take q) + (l[q]'(by omega)).toNat * 2 ^ (8 * q) := by
               rw [take_snoc l q (by omega), lowVal_snoc, List.length_take, Nat.min_eq_left (by omega)]
             have hlo : lowVal (l.take q) < 2 ^ (8 * q) := by
               have := lowVal_lt (l.take q)
               rwa [List.length_take, Nat.min_eq_left (by omega)] at this
             have hc256 : (l[q]'(by omega)).toNat < 256 := UInt8.toNat_lt _; generalize l[q]'(by omega) = cc at *; have hb := num_bits _ q cc.toNat hlo hc256 (by omega); have Hbb := hid hb; clear hb; have Hs := hid hs; clear hs hlo; generalize lowVal (l.take q) = aa at *; go_wp2_with fail
             go_round
             (case rel => exact ⟨q + 1, by omega, by go_num, by rw [Hs.out, ← Hbb.out]⟩); case measure => simp [intOf]; omega
           · (have hq4 : q = 4 := by omega); subst hq4; generalize lowVal (l.take 4) = lv at *
             go_wp2_with (first
               | (go_at_call 182; go_must (refine (Hbk2.out _).mono ?_; rintro e w5 ⟨rfl, hw5⟩; subst hw5))
               | (at_builtin; go_must (refine wpList_app1 eU64c _ (by rfl) _ _ (by rfl) w1.heap.size _ _ _ (by rfl) How.out _ (by rfl) (by first | rfl | simp) (by rfl) (oc (by rfl)) (by omega) (by unfold maxLen; omega) (by first | omega | (simp; omega)) ?_; intro v3 w3 how3 hev3)))
             all_goals
               go_roundw
               case rel =>
                 first
                   | (refine ⟨_, _, _, _, ⟨j + 4, acc ++ [bk], some ⟨bb, oo, none⟩, 0, fu, l.drop 4, ?_, by rw [← Hl.out, List.drop_drop], by have := Hll.out; omega, by rw [List.length_drop]; omega, RdB.drop Hrb.out 4 hms3 (fun h' => absurd h h') (by rw [List.length_drop]) (by omega), by simpa [U64s] using how3, by simp; omega, HB2.out, HA2.out, Hup.out.evo hev3 (fun k hk => (How.out.lt k hk).1)⟩, rfl, rfl, rfl, rfl⟩; rw [List.length_drop])
                   | (refine ⟨_, _, _, _, ⟨j + 4, acc ++ [bk], some ⟨bb, oo + 4, none⟩, c - 4, fu, l.drop 4, ?_, by rw [← Hl.out, List.drop_drop], by have := Hll.out; omega, by rw [List.length_drop]; omega, RdB.drop Hrb.out 4 hms3 (fun _ => rfl) (by rw [List.length_drop]) rfl, by simpa [U64s] using how3, by simp; omega, HB2.out, HA2.out, Hup.out.evo hev3 (fun k hk => (How.out.lt k hk).1)⟩, rfl, rfl, rfl, rfl⟩; rw [List.length_drop])
               case measure => simp only [lenV]; omega
       · (have hms : ¬ ((l.length : Int) < 8) := by omega); (have hms2 : (8 : Int) ≤ (l.length : Int) := by omega); (have hms3 : 8 ≤ l.length := by omega); obtain ⟨bb, oo, rfl, _⟩ := RdB.cell Hrb.out (i := 0) hpos
         have HB2 := hid (show ∀ n ∈ acc ++ [bk], n < 18446744073709551616 from fun z hz => by
           rcases List.mem_append.1 hz with h | h
           · exact Hac.out z h
           · simp at h; subst h; exact Hb.out)
         go_upto_region 21 with (fail)
         go_loop [9, 82] (fun n i => ∃ q : Nat, q ≤ 8 ∧ i = .int .i64 q ∧ n = .int .u64 (lowVal (l.take q))) (fun _ i => 8 - (intOf i).toNat)
         case atStart => exact ⟨0, by omega, rfl, rfl⟩
         case round =>
           obtain ⟨q, hq, rfl, rfl⟩ := hrel
           by_cases hlq : q < 8
           · obtain ⟨b', o', he, hcell⟩ := RdB.cell (Hrb.out.up stable_u8 Hup.out) (i := q) (by omega); simp only [Option.some.injEq, Addr.mk.injEq, and_true] at he; obtain ⟨rfl, rfl⟩ := he
             have hs : lowVal (l.take (q + 1)) = lowVal (l.take q) + (l[q]'(by omega)).toNat * 2 ^ (8 * q) := by
               rw [take_snoc l q (by omega), lowVal_snoc, List.length_take, Nat.min_eq_left (by omega)]
             have hlo : lowVal (l.take q) < 2 ^ (8 * q) := by
               have := lowVal_lt (l.take q)
               rwa [List.length_take, Nat.min_eq_left (by omega)] at this
             have hc256 : (l[q]'(by omega)).toNat < 256 := UInt8.toNat_lt _; generalize l[q]'(by omega) = cc at *; have hb := num_bits _ q cc.toNat hlo hc256 (by omega); have Hbb := hid hb; clear hb; have Hs := hid hs; clear hs hlo; generalize lowVal (l.take q) = aa at *; go_wp2_with fail
             go_round
             (case rel => exact ⟨q + 1, by omega, by go_num, by rw [Hs.out, ← Hbb.out]⟩); case measure => simp [intOf]; omega
           · (have hq4 : q = 8 := by omega); subst hq4; generalize lowVal (l.take 8) = lv at *
             go_wp2_with (first
               | (go_at_call 182; go_must (refine (Hbk2.out _).mono ?_; rintro e w5 ⟨rfl, hw5⟩; subst hw5))
               | (at_builtin; go_must (refine wpList_app1 eU64c _ (by rfl) _ _ (by rfl) w1.heap.size _ _ _ (by rfl) How.out _ (by rfl) (by first | rfl | simp) (by rfl) (oc (by rfl)) (by omega) (by unfold maxLen; omega) (by first | omega | (simp; omega)) ?_; intro v3 w3 how3 hev3)))
             all_goals
               go_roundw
               case rel =>
                 first
                   | (refine ⟨_, _, _, _, ⟨j + 8, acc ++ [bk], some ⟨bb, oo, none⟩, 0, fu, l.drop 8, ?_, by rw [← Hl.out, List.drop_drop], by have := Hll.out; omega, by rw [List.length_drop]; omega, RdB.drop Hrb.out 8 hms3 (fun h' => absurd h h') (by rw [List.length_drop]) (by omega), by simpa [U64s] using how3, by simp; omega, HB2.out, HA2.out, Hup.out.evo hev3 (fun k hk => (How.out.lt k hk).1)⟩, rfl, rfl, rfl, rfl⟩; rw [List.length_drop])
                   | (refine ⟨_, _, _, _, ⟨j + 8, acc ++ [bk], some ⟨bb, oo + 8, none⟩, c - 8, fu, l.drop 8, ?_, by rw [← Hl.out, List.drop_drop], by have := Hll.out; omega, by rw [List.length_drop]; omega, RdB.drop Hrb.out 8 hms3 (fun _ => rfl) (by rw [List.length_drop]) rfl, by simpa [U64s] using how3, by simp; omega, HB2.out, HA2.out, Hup.out.evo hev3 (fun k hk => (How.out.lt k hk).1)⟩, rfl, rfl, rfl, rfl⟩; rw [List.length_drop])
               case measure => simp only [lenV]; omega
   · have hle : l = [] := List.eq_nil_of_length_eq_zero (by omega); (have hnp : ¬ ((0 : Int) < (l.length : Int)) := by omega); go_wp2_with fail
     go_ret2
     have hA := HA.out; rw [hle, comb_nil] at hA; rw [← hA]; exact ⟨_, rfl, rd64_of_owns How.out Hac.out (fun k hk => (How.out.lt k hk).1), Hup.out⟩
end Go.Proofs.YtbceapeoknngnaaGreatDoor
namespace Go.Proofs.YtbceapeoknngnaaGreatDoor
open Go.RowKit
theorem howC_cases (k : Int) : howC k = 0 ∨ howC k = 1 ∨ howC k = 5 ∨ howC k = 2 := by
 unfold howC; split
 · omega
 split
 · omega
 split
 · omega
 · omega
theorem numbers_c (x : Fld) (r : Rec) (bf fo b o c3 : Nat) (a3 : Option Addr) (w : World) (hx : FldAt w bf fo x) (h1 : w.cell? ⟨b, o + 1, none⟩ = some (.int .i64 r.how)) (h2 : w.cell? ⟨b, o + 2, none⟩ = some (.int .u64 (r.bits : Int))) (h3 : w.cell? ⟨b, o + 3, none⟩ = some (.slice a3 r.bytes.length c3))
   (hr : RdB All w (.slice a3 r.bytes.length c3) r.bytes) (hbl : r.bytes.length ≤ 1099511627776) (h64 : r.bits < 18446744073709551616) (hk : howC x.kind ≠ 2) :
   Calls Tryz.prog 134 #[.pointer (some ⟨bf, fo, none⟩), .pointer (some ⟨b, o, none⟩)] w fun e w' => ∃ v', e = .returned (.tuple #[v', .int .i64 (numbersC x r).2]) ∧ RdS DU64 1 (From w.heap.size) w' v' (numbersC x r).1 ∧ Up w w' := by
 by_cases he : r.how = howC x.kind
 · exact numbers_one x r bf fo b o c3 a3 w hx h1 h2 h64 (.inl he)
 by_cases hh : r.how = 2
 · cases hm : x.many with
   | false => exact numbers_one x r bf fo b o c3 a3 w hx h1 h2 h64 (.inr (.inr hm))
   | true =>
     rcases howC_cases x.kind with h | h | h | h
     · exact numbers_var x r bf fo b o c3 a3 w hx h1 h3 hr hbl hh hm h
     · exact numbers_fix x r bf fo b o c3 a3 w hx h1 h3 hr hbl hh hm 1 8 h (.inr ⟨rfl, rfl⟩)
     · exact numbers_fix x r bf fo b o c3 a3 w hx h1 h3 hr hbl hh hm 5 4 h (.inl ⟨rfl, rfl⟩)
     · exact absurd h hk
 · exact numbers_one x r bf fo b o c3 a3 w hx h1 h2 h64 (.inr (.inl hh))
set_option maxRecDepth 100000
open Lib (hid)
set_option maxHeartbeats 1600000 in
theorem rvalue_num (x : Fld) (r : Rec) (cb bf fo b o c3 : Nat) (a3 : Option Addr) (deep : Int) (w : World) (hx : FldAt w bf fo x) (h1 : w.cell? ⟨b, o + 1, none⟩ = some (.int .i64 r.how)) (h2 : w.cell? ⟨b, o + 2, none⟩ = some (.int .u64 (r.bits : Int))) (h3 : w.cell? ⟨b, o + 3, none⟩ = some (.slice a3 r.bytes.length c3))
   (hr : RdB All w (.slice a3 r.bytes.length c3) r.bytes) (hbl : r.bytes.length ≤ 1099511627776) (h64 : r.bits < 18446744073709551616) (hk : howC x.kind ≠ 2) :
   Calls Tryz.prog 70 #[.pointer (some ⟨cb, 0, none⟩), .pointer (some ⟨bf, fo, none⟩), .pointer (some ⟨b, o, none⟩), .int .i64 deep] w fun e w' => ∃ v1, e = .returned (.tuple #[.agg #[.int .i64 x.number, v1, .slice none 0 0, .slice none 0 0], .bool (decide (0 < (numbersC x r).1.length)), .int .i64 (numbersC x r).2]) ∧ RdS DU64 1 (From (w.heap.size + 2)) w' v1 (numbersC x r).1 ∧ Up w w' := by
 have hhw := hid (how_c x.kind); have Hnum := hid (fun W (u : Up w W) => numbers_c x r bf fo b o c3 a3 W (hx.up u) (u.cell_some h1) (u.cell_some h2) (u.cell_some h3) (hr.up stable_u8 u) hbl h64 hk); obtain ⟨hxb, ⟨x0, x1, x2, x3, x4, x5⟩, hxd⟩ := hx; (have hne2 : (howC x.kind != 2) = true := by rw [bne_iff_ne]; exact hk); clear hr hk h1 h2 h3 x0 x3 x4 x5 hxd h64 hbl; generalize howC x.kind = hw at *; generalize numbersC x r = N at *; (have hb1 : bf ≠ w.heap.size := by omega); have hb2 : bf ≠ w.heap.size + 1 := by omega
 go_enter Tryz.func70, Tryz.ntmps70
 go_upto_region 3 with (go_at_call 21; go_must (refine (hhw.out _).mono ?_; rintro e w1 ⟨rfl, rfl⟩))
 have hu0 := hid (((Up.refl w).alloc (.cells #[.int .i64 0, .slice none 0 0, .slice none 0 0, .slice none 0 0] 53)).alloc (.cells #[.int .i64 x.number, .slice none 0 0, .slice none 0 0, .slice none 0 0] 53)); have hk0 := hid (show ((w.alloc (.cells #[.int .i64 0, .slice none 0 0, .slice none 0 0, .slice none 0 0] 53)).alloc (.cells #[.int .i64 x.number, .slice none 0 0, .slice none 0 0, .slice none 0 0] 53)).heap[w.heap.size]? = some (.cells #[.int .i64 0, .slice none 0 0, .slice none 0 0, .slice none 0 0] 53 (0, 0)) from blk_old _ (blk_new w _ rfl)); have hk1 := hid (show ((w.alloc (.cells #[.int .i64 0, .slice none 0 0, .slice none 0 0, .slice none 0 0] 53)).alloc (.cells #[.int .i64 x.number, .slice none 0 0, .slice none 0 0, .slice none 0 0] 53)).heap[w.heap.size + 1]? = some (.cells #[.int .i64 x.number, .slice none 0 0, .slice none 0 0, .slice none 0 0] 53 (0, 0)) from blk_new (w.alloc _) _ (by simp)); go_wp2_with (go_at_call 134; go_must (refine (Hnum.out _ hu0.out).mono ?_; rintro e w5 ⟨v5, rfl, hv5, hu5⟩; obtain ⟨a5, c5, rfl, _, _⟩ := hv5.val; have k0 := hu5.blk hk0.out; have k1 := hu5.blk hk1.out; have hz5 := hu5.size; have q0 := lt_of_block k0; have q1 := lt_of_block k1; have z0 : w5.cell? ⟨w.heap.size, 0, none⟩ = some (.int .i64 0) := cell_of_row w5 _ 0 _ _ _ k0; have z1 : w5.cell? ⟨w.heap.size, 1, none⟩ = some (.slice none 0 0) := cell_of_row w5 _ 1 _ _ _ k0; have z2 : w5.cell? ⟨w.heap.size, 2, none⟩ = some (.slice none 0 0) := cell_of_row w5 _ 2 _ _ _ k0; have z3 : w5.cell? ⟨w.heap.size, 3, none⟩ = some (.slice none 0 0) := cell_of_row w5 _ 3 _ _ _ k0; have y0 : w5.cell? ⟨w.heap.size + 1, 0, none⟩ = some (.int .i64 x.number) := cell_of_row w5 _ 0 _ _ _ k1; have y1 : w5.cell? ⟨w.heap.size + 1, 1, none⟩ = some (.slice none 0 0) := cell_of_row w5 _ 1 _ _ _ k1; have y2 : w5.cell? ⟨w.heap.size + 1, 2, none⟩ = some (.slice none 0 0) := cell_of_row w5 _ 2 _ _ _ k1; have y3 : w5.cell? ⟨w.heap.size + 1, 3, none⟩ = some (.slice none 0 0) := cell_of_row w5 _ 3 _ _ _ k1; have f0 : ∀ o, w5.frozen? ⟨w.heap.size, o, none⟩ = false := (fun o => frozen_of_row w5 _ o _ _ k0); have f1 : ∀ o, w5.frozen? ⟨w.heap.size + 1, o, none⟩ = false := (fun o => frozen_of_row w5 _ o _ _ k1); have Hv5 := hid hv5; have Hu5 := hid (hu0.out.trans hu5); clear k0 k1 hv5 hu5))
 all_goals
   have hv5 : RdS DU64 1 (From (w.heap.size + 2)) w5 (.slice a5 N.1.length c5) N.1 := Hv5.out.keep stable_u64 (Keep.weak (fun k hk => by simp at hk; exact hk)); refine bodyPost_ret (v := .tuple #[.agg #[.int .i64 x.number, .slice a5 N.1.length c5, .slice none 0 0, .slice none 0 0], .bool (decide (0 < N.1.length)), .int .i64 N.2]) (by simp [results, Tryz.results70, go_sem, z0, z1, z2, z3]) rfl ?_; refine ⟨_, rfl, hv5.keep stable_u64 ?_, ?_⟩
   · repeat (with_reducible refine Keep.trans ?_ (Keep.setCell ?_ _))
     · exact Keep.weak (fun k hk => hk)
     all_goals (show ¬ (w.heap.size + 2 ≤ _); simp)
   · repeat (with_reducible refine Up.setCell ?_ ?_ _)
     · exact Hu5.out
     all_goals simp
set_option maxHeartbeats 1600000 in
theorem rvalue_unfit (x : Fld) (r : Rec) (cb bf fo b o : Nat) (deep : Int) (w : World) (hx : FldAt w bf fo x) (h1 : w.cell? ⟨b, o + 1, none⟩ = some (.int .i64 r.how)) (hk : howC x.kind = 2) (hr : r.how ≠ 2) :
   Calls Tryz.prog 70 #[.pointer (some ⟨cb, 0, none⟩), .pointer (some ⟨bf, fo, none⟩), .pointer (some ⟨b, o, none⟩), .int .i64 deep] w fun e w' => e = .returned (.tuple #[.agg #[.int .i64 x.number, .slice none 0 0, .slice none 0 0, .slice none 0 0], .bool false, .int .i64 8]) ∧ Up w w' := by
 have hhw := how_c x.kind; rw [hk] at hhw; have Hhw := hid hhw; obtain ⟨hxb, ⟨x0, x1, x2, x3, x4, x5⟩, hxd⟩ := hx; have hb := World.block_lt_of_cell? w _ h1; simp only at hb; (have hn2 : (r.how != 2) = true := by rw [bne_iff_ne]; exact hr); clear hk x0 x3 x4 x5 hxd hhw hr; (have hb1 : bf ≠ w.heap.size := by omega); (have hb2 : bf ≠ w.heap.size + 1 := by omega); (have hb3 : b ≠ w.heap.size := by omega); (have hb4 : b ≠ w.heap.size + 1 := by omega); have u1 := (Up.refl w).alloc (.cells #[.int .i64 0, .slice none 0 0, .slice none 0 0, .slice none 0 0] 53); have u2 := u1.alloc (.cells #[.int .i64 x.number, .slice none 0 0, .slice none 0 0, .slice none 0 0] 53); have g1 := u2.cell_some h1; have g2 := u2.cell_some x2; clear u1 u2
 go_enter Tryz.func70, Tryz.ntmps70
 go_wp2_with (go_at_call 21; go_must (refine (Hhw.out _).mono ?_; rintro e w1 ⟨rfl, hw1⟩; subst hw1))
 all_goals
   refine bodyPost_ret (v := .tuple #[.agg #[.int .i64 x.number, .slice none 0 0, .slice none 0 0, .slice none 0 0], .bool false, .int .i64 8]) (by simp [results, Tryz.results70, go_sem]) rfl ?_; refine ⟨rfl, ?_⟩; (repeat (with_reducible refine Up.setCell ?_ ?_ _)); all_goals first | exact ((Up.refl w).alloc _).alloc _ | simp
def SVal (S : Nat → Prop) (B : Nat) : Nat → Prop := fun k => (S k ∧ k < B) ∨ B + 2 ≤ k
theorem SVal.keep {S : Nat → Prop} {w w' : World} (u : Up w w') : Keep S w (SVal S w.heap.size) w' := fun k hs hlt => ⟨u.block k hlt, .inl ⟨hs, hlt⟩⟩
theorem rdS_bytes1 (S : Nat → Prop) (W : World) (a3 : Option Addr) (c3 : Nat) (l : List UInt8) (hr : RdB S W (.slice a3 l.length c3) l) (hl : l.length ≤ 140737488355328) (t : TypeId) (g : Nat) (hg : g = W.heap.size) (hS : S g) : RdS DBytes 1 S (W.alloc (.cells #[.slice a3 l.length c3] t)) (.slice (some ⟨g, 0, none⟩) 1 1) [l] := by
 subst hg; refine ⟨some ⟨W.heap.size, 0, none⟩, 1, rfl, by simp, by unfold maxLen; omega, (fun e => nomatch e), fun i hi => ?_⟩; (have : i = 0 := by simpa using hi); subst this; refine ⟨W.heap.size, 0, [.slice a3 l.length c3], rfl, hS, by simp, rfl, fun j u hu => ?_, ⟨_, rfl, hr.keep stable_u8 (Keep.alloc _), hl⟩⟩
 have hj : j = 0 := by
   have := (List.getElem?_eq_some_iff.1 hu).1; simpa using this
 subst hj; simp at hu; subst hu; exact cell_of_row _ _ 0 _ _ _ (heap_alloc_new W _)
set_option maxHeartbeats 1600000 in
theorem rvalue_raw (S : Nat → Prop) (x : Fld) (r : Rec) (cb bf fo b o c3 : Nat) (a3 : Option Addr) (deep : Int) (w : World) (hx : FldAt w bf fo x) (h1 : w.cell? ⟨b, o + 1, none⟩ = some (.int .i64 r.how)) (h3 : w.cell? ⟨b, o + 3, none⟩ = some (.slice a3 r.bytes.length c3))
   (hr : RdB S w (.slice a3 r.bytes.length c3) r.bytes) (hbl : r.bytes.length ≤ 140737488355328) (hk : x.kind = 9) (hh : r.how = 2) :
   Calls Tryz.prog 70 #[.pointer (some ⟨cb, 0, none⟩), .pointer (some ⟨bf, fo, none⟩), .pointer (some ⟨b, o, none⟩), .int .i64 deep] w fun e w' => ∃ v2, e = .returned (.tuple #[.agg #[.int .i64 x.number, .slice none 0 0, v2, .slice none 0 0], .bool true, .int .i64 0]) ∧ RdS DBytes 1 (SVal S w.heap.size) w' v2 [r.bytes] ∧ Up w w' := by
 have hhw := how_c x.kind; rw [hk] at hhw; have Hhw := hid hhw; have Hr := hid hr; obtain ⟨hxb, ⟨x0, x1, x2, x3, x4, x5⟩, hxd⟩ := hx; rw [hk] at x2; rw [hh] at h1; have hb := World.block_lt_of_cell? w _ h1; simp only at hb; clear hk hh x0 x3 x4 x5 hxd hhw hr; (have hb1 : bf ≠ w.heap.size := by omega); (have hb2 : bf ≠ w.heap.size + 1 := by omega); (have hb3 : b ≠ w.heap.size := by omega); (have hb4 : b ≠ w.heap.size + 1 := by omega); have u2 := ((Up.refl w).alloc (.cells #[.int .i64 0, .slice none 0 0, .slice none 0 0, .slice none 0 0] 53)).alloc (.cells #[.int .i64 x.number, .slice none 0 0, .slice none 0 0, .slice none 0 0] 53); have g1 := u2.cell_some h1; have g2 := u2.cell_some x2; have g3 := u2.cell_some h3; clear u2
 go_enter Tryz.func70, Tryz.ntmps70
 go_wp2_with (go_at_call 21; go_must (refine (Hhw.out _).mono ?_; rintro e w1 ⟨rfl, hw1⟩; subst hw1))
 all_goals
   refine bodyPost_ret (v := .tuple #[.agg #[.int .i64 x.number, .slice none 0 0, .slice (some ⟨w.heap.size + 2, 0, none⟩) 1 1, .slice none 0 0], .bool true, .int .i64 0]) (by simp [results, Tryz.results70, go_sem]) rfl ?_; refine ⟨_, rfl, ?_, ?_⟩
   · exact rdS_bytes1 _ _ a3 c3 r.bytes (Hr.out.keep stable_u8 (SVal.keep (((Up.refl w).alloc _).alloc _))) hbl _ _ (by simp) (.inr (Nat.le_refl _))
   · (repeat (with_reducible refine Up.setCell ?_ ?_ _)); all_goals first | exact (((Up.refl w).alloc _).alloc _).alloc _ | simp
set_option maxHeartbeats 1600000 in
theorem rvalue_text (S : Nat → Prop) (x : Fld) (r : Rec) (cb bf fo b o c3 : Nat) (a3 : Option Addr) (deep : Int) (w : World) (hx : FldAt w bf fo x) (h1 : w.cell? ⟨b, o + 1, none⟩ = some (.int .i64 r.how)) (h3 : w.cell? ⟨b, o + 3, none⟩ = some (.slice a3 r.bytes.length c3))
   (hr : RdB S w (.slice a3 r.bytes.length c3) r.bytes) (hbl : r.bytes.length ≤ 140737488355328) (hk : x.kind = 8) (hT : Tabs w) (hh : r.how = 2) :
   Calls Tryz.prog 70 #[.pointer (some ⟨cb, 0, none⟩), .pointer (some ⟨bf, fo, none⟩), .pointer (some ⟨b, o, none⟩), .int .i64 deep] w fun e w' => ∃ v2, e = .returned (.tuple #[.agg #[.int .i64 x.number, .slice none 0 0, v2, .slice none 0 0], .bool (Lib.validD r.bytes), .int .i64 (if Lib.validD r.bytes = true then 0 else 9)]) ∧ RdS DBytes 1 (SVal S w.heap.size) w' v2 (if Lib.validD r.bytes = true then [r.bytes] else []) ∧ Up w w' := by
 have hhw := how_c x.kind; rw [hk] at hhw; have Hhw := hid hhw; have Hr := hid hr; have Hval := hid (fun W (u : Up w W) => valid_b _ r.bytes W ((hr.keep stable_u8 Keep.all).up stable_u8 u) (hT.up u)); obtain ⟨hxb, ⟨x0, x1, x2, x3, x4, x5⟩, hxd⟩ := hx; rw [hk] at x2; rw [hh] at h1; have hb := World.block_lt_of_cell? w _ h1; simp only at hb; clear hT hk hh x0 x3 x4 x5 hxd hhw hr; (have hb1 : bf ≠ w.heap.size := by omega); (have hb2 : bf ≠ w.heap.size + 1 := by omega); (have hb3 : b ≠ w.heap.size := by omega); (have hb4 : b ≠ w.heap.size + 1 := by omega); have u2 := ((Up.refl w).alloc (.cells #[.int .i64 0, .slice none 0 0, .slice none 0 0, .slice none 0 0] 53)).alloc (.cells #[.int .i64 x.number, .slice none 0 0, .slice none 0 0, .slice none 0 0] 53); have g1 := u2.cell_some h1; have g2 := u2.cell_some x2; have g3 := u2.cell_some h3; clear u2
 go_enter Tryz.func70, Tryz.ntmps70
 have hu0 := hid (((Up.refl w).alloc (.cells #[.int .i64 0, .slice none 0 0, .slice none 0 0, .slice none 0 0] 53)).alloc (.cells #[.int .i64 x.number, .slice none 0 0, .slice none 0 0, .slice none 0 0] 53)); have hk0 := hid (show ((w.alloc (.cells #[.int .i64 0, .slice none 0 0, .slice none 0 0, .slice none 0 0] 53)).alloc (.cells #[.int .i64 x.number, .slice none 0 0, .slice none 0 0, .slice none 0 0] 53)).heap[w.heap.size]? = some (.cells #[.int .i64 0, .slice none 0 0, .slice none 0 0, .slice none 0 0] 53 (0, 0)) from blk_old _ (blk_new w _ rfl)); have hk1 := hid (show ((w.alloc (.cells #[.int .i64 0, .slice none 0 0, .slice none 0 0, .slice none 0 0] 53)).alloc (.cells #[.int .i64 x.number, .slice none 0 0, .slice none 0 0, .slice none 0 0] 53)).heap[w.heap.size + 1]? = some (.cells #[.int .i64 x.number, .slice none 0 0, .slice none 0 0, .slice none 0 0] 53 (0, 0)) from blk_new (w.alloc _) _ (by simp)); have H3 := hid g3; cases hvd : Lib.validD r.bytes
 all_goals
   rw [hvd] at Hval; clear hvd
   go_wp2_with (first
     | (go_at_call 21; go_must (refine (Hhw.out _).mono ?_; rintro e w1 ⟨rfl, hw1⟩; subst hw1))
     | (go_at_call 135; go_must (refine (Hval.out _ hu0.out).mono ?_; rintro e w5 ⟨rfl, hu5⟩; have k0 := hu5.blk hk0.out; have k1 := hu5.blk hk1.out; have hz5 := hu5.size; have q0 := lt_of_block k0; have q1 := lt_of_block k1; have z0 : w5.cell? ⟨w.heap.size, 0, none⟩ = some (.int .i64 0) := cell_of_row w5 _ 0 _ _ _ k0; have z1 : w5.cell? ⟨w.heap.size, 1, none⟩ = some (.slice none 0 0) := cell_of_row w5 _ 1 _ _ _ k0; have z2 : w5.cell? ⟨w.heap.size, 2, none⟩ = some (.slice none 0 0) := cell_of_row w5 _ 2 _ _ _ k0; have z3 : w5.cell? ⟨w.heap.size, 3, none⟩ = some (.slice none 0 0) := cell_of_row w5 _ 3 _ _ _ k0; have y0 : w5.cell? ⟨w.heap.size + 1, 0, none⟩ = some (.int .i64 x.number) := cell_of_row w5 _ 0 _ _ _ k1; have y1 : w5.cell? ⟨w.heap.size + 1, 1, none⟩ = some (.slice none 0 0) := cell_of_row w5 _ 1 _ _ _ k1; have y2 : w5.cell? ⟨w.heap.size + 1, 2, none⟩ = some (.slice none 0 0) := cell_of_row w5 _ 2 _ _ _ k1; have y3 : w5.cell? ⟨w.heap.size + 1, 3, none⟩ = some (.slice none 0 0) := cell_of_row w5 _ 3 _ _ _ k1; have f0 : ∀ o, w5.frozen? ⟨w.heap.size, o, none⟩ = false := (fun o => frozen_of_row w5 _ o _ _ k0); have f1 : ∀ o, w5.frozen? ⟨w.heap.size + 1, o, none⟩ = false := (fun o => frozen_of_row w5 _ o _ _ k1); have g35 := hu5.cell_some H3.out; have Hu5 := hid (hu0.out.trans hu5); have Hz5 := hid hz5; clear k0 k1 hu5 hz5)))
   first
     | (refine bodyPost_ret (v := .tuple #[.agg #[.int .i64 x.number, .slice none 0 0, .slice none 0 0, .slice none 0 0], .bool false, .int .i64 9]) (by simp [results, Tryz.results70, go_sem, z0, z1, z2, z3]) rfl ?_
        refine ⟨_, rfl, rdS_nil _ _ _ _, ?_⟩; repeat (with_reducible refine Up.setCell ?_ ?_ _)
        · exact Hu5.out
        all_goals simp)
     | (have ne0 : w.heap.size ≠ w5.heap.size := by omega
        (have ne1 : w.heap.size + 1 ≠ w5.heap.size := by omega); refine bodyPost_ret (v := .tuple #[.agg #[.int .i64 x.number, .slice none 0 0, .slice (some ⟨w5.heap.size, 0, none⟩) 1 1, .slice none 0 0], .bool true, .int .i64 0]) (by simp [results, Tryz.results70, go_sem, z0, z1, z2, z3, q0]) rfl ?_; refine ⟨_, rfl, rdS_bytes1 _ _ a3 c3 r.bytes ((Hr.out.keep stable_u8 (SVal.keep Hu5.out)).keep stable_u8 ?_) hbl _ _ (by simp) (.inr (by have := Hz5.out; simp at this; omega)), ?_⟩
        · repeat (with_reducible refine Keep.trans ?_ (Keep.setCell ?_ _))
          · exact Keep.weak (fun k hk => hk)
          all_goals (show ¬ ((S _ ∧ _ < w.heap.size) ∨ w.heap.size + 2 ≤ _); simp)
        · refine Up.alloc ?_ _; repeat (with_reducible refine Up.setCell ?_ ?_ _)
          · exact Hu5.out
          all_goals simp)
end Go.Proofs.YtbceapeoknngnaaGreatDoor
