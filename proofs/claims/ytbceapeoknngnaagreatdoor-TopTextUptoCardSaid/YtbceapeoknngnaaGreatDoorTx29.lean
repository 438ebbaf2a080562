/-
  wire.Open.
  codec.back.
  Package wire: Get.
  codec.numbers.
-/
import Derived.Test.YtbceapeoknngnaaGreatDoorTx13
import Derived.Test.YtbceapeoknngnaaGreatDoorTx14
set_option linter.unusedVariables false
namespace Go.Proofs.YtbceapeoknngnaaGreatDoor
open Go.RowKit
set_option maxRecDepth 100000
open Lib (hid)
set_option maxHeartbeats 400000 in
theorem open_any (n : Nat) (w : World) (h1 : n < 2 ^ 64) :
   Calls Tryz.prog 196 #[.int .u64 n] w fun e w' => e = .returned (.int .i64 (unzig n)) ∧ w' = w := by
 have H1 := hid h1; clear h1
 go_enter Tryz.func196, Tryz.ntmps196
 go_wp2_with fail
 go_ret
 exact ⟨by rw [← open_bits n H1.out]; rfl, rfl⟩
theorem ret_u64 {a b : Int} (h : a = b) : Ending.returned (.int .u64 a) = Ending.returned (.int .u64 b) := by rw [h]
set_option maxHeartbeats 800000 in
theorem back_c (k : Int) (n : Nat) (w : World) (hn : n < 18446744073709551616) :
   Calls Tryz.prog 182 #[.int .i64 k, .int .u64 n] w fun e w' => e = .returned (.int .u64 (backC k n : Int)) ∧ w' = w := by
 by_cases h2 : k = 2
 · subst h2; have e : backC 2 n = usg (unzig n) := if_pos rfl; rw [e]; have Ho := hid (open_any n w hn)
   go_enter Tryz.func182, Tryz.ntmps182
   go_wp2_with (go_at_call 196; go_must (refine Ho.out.mono ?_; rintro e w1 ⟨rfl, rfl⟩))
   all_goals
     go_ret
     refine ⟨ret_u64 ?_, rfl⟩; rw [IntKind.wrap_u64]; unfold usg unzig; split <;> split <;> omega
 by_cases h4 : k = 4
 · subst h4; (have e : backC 4 n = min n 1 := by unfold backC; rw [if_neg (by decide), if_pos rfl]); rw [e]
   go_enter Tryz.func182, Tryz.ntmps182
   go_wp2_with fail
   all_goals
     go_ret
     refine ⟨ret_u64 ?_, rfl⟩; omega
 by_cases h5 : k = 5
 · subst h5; (have e : backC 5 n = (if n % 4294967296 < 2147483648 then n % 4294967296 else n % 4294967296 + 18446744069414584320) := by unfold backC; rw [if_neg (by decide), if_neg (by decide), if_pos rfl]); rw [e]
   go_enter Tryz.func182, Tryz.ntmps182
   go_wp2_with fail
   all_goals
     go_ret
     refine ⟨ret_u64 ?_, rfl⟩; rw [IntKind.wrap_u64]; unfold wrap64 wrap32; omega
 (have b2 : (k == 2) = false := by simpa using h2); (have b4 : (k == 4) = false := by simpa using h4); (have b5 : (k == 5) = false := by simpa using h5); (have e : backC k n = n := by unfold backC; rw [if_neg h2, if_neg h4, if_neg h5]); rw [e]; clear h2 h4 h5
 go_enter Tryz.func182, Tryz.ntmps182
 go_wp2_with fail
 go_ret
 exact ⟨rfl, rfl⟩
set_option maxHeartbeats 400000 in
theorem get_any (v : Value) (l : List UInt8) (w : World) (hv : RdB All w v l) :
   Calls Tryz.prog 105 #[v] w fun e w' => e = .returned (.tuple #[.int .u64 ((get l).1 : Int), .int .i64 ((get l).2.1 : Int), .int .i64 (get l).2.2]) ∧ w' = w := by
 obtain ⟨ao, cap, rfl, hc1, hc2⟩ := hv.val
 go_enter Tryz.func105, Tryz.ntmps105
 go_wp2_with fail
 go_loop [5, 10] (fun n i => ∃ k a : Nat, k ≤ l.length ∧ k ≤ 9 ∧ i = .int .i64 k ∧ n = .int .u64 a ∧ a < 2 ^ (7 * k) ∧ getF k a (l.drop k) = get l) (fun _ i => l.length - (intOf i).toNat)
 case atStart => exact ⟨0, 0, by omega, by omega, rfl, rfl, by simp, rfl⟩
 case round =>
   obtain ⟨k, a, hk, hk9, rfl, rfl, ha, hg⟩ := hrel
   by_cases hlt : k < l.length
   · obtain ⟨b, o, rfl, hcell⟩ := hv.cell hlt; have hd : l.drop k = l[k] :: l.drop (k + 1) := List.drop_eq_getElem_cons hlt; have hc256 : l[k].toNat < 256 := UInt8.toNat_lt _; generalize l[k] = c at *; rw [hd, getF] at hg
     by_cases h9 : k = 9 ∧ 1 < c.toNat
     · obtain ⟨rfl, h1⟩ := h9; (have Hg : Hid ((0, 0, 3) = get l) := by rw [← hg, if_pos ⟨rfl, h1⟩]; exact hid rfl); clear hg hd ha; go_wp2_with fail
       go_ret3
       rw [← Hg.out]; exact ⟨rfl, rfl⟩
     · have hb := get_bits a k c.toNat ha hc256 hk9 (by omega); have hs := get_step a k c.toNat ha; rw [if_neg h9] at hg; have Hb := hid hb; clear hb; have Hs := hid hs; clear hs; have Hg := hid hg; clear hg; (have h91 : k = 9 → c.toNat ≤ 1 := by omega); clear ha h9 hd
       by_cases h9 : k = 9
       · have h1 := h91 h9; clear h91; subst h9; go_wp2_with fail
         go_ret3
         have hg := Hg.out; rw [if_pos (by omega)] at hg; have hb := Hb.out; rw [← hg]; simp only [Nat.reduceMul, Int.reducePow] at hb; rw [hb]; refine ⟨?_, rfl⟩; rw [Nat.mod_eq_of_lt (by omega)]; rfl
       · clear h91; have h9b : ((k : Int) == 9) = false := by rw [beq_eq_false_iff_ne]; omega
         by_cases h128 : c.toNat < 128
         · go_wp2_with fail
           go_ret3
           have hg := Hg.out; rw [if_pos h128] at hg; rw [← hg, Hb.out]; refine ⟨?_, rfl⟩; rw [Nat.mod_eq_of_lt h128]; rfl
         · go_wp2_with fail
           go_round
           case rel =>
             have hg := Hg.out; rw [if_neg h128] at hg; exact ⟨k + 1, _, by omega, by omega, by go_num, by rw [Hb.out], Hs.out, hg⟩
           case measure => simp [intOf]; omega
   · rw [List.drop_eq_nil_of_le (by omega), getF] at hg; have Hg := hid hg; clear hg ha; go_wp2_with fail
     go_ret3
     rw [← Hg.out]; exact ⟨rfl, rfl⟩
theorem get_eq (v : Value) (l : List UInt8) (w : World) (x m : Nat) (e0 : Int) (h : get l = (x, m, e0)) (hv : RdB All w v l) :
   Calls Tryz.prog 105 #[v] w fun e w' => e = .returned (.tuple #[.int .u64 (x : Int), .int .i64 (m : Int), .int .i64 e0]) ∧ w' = w := by
 have := get_any v l w hv; rw [h] at this; exact this
def U64s (l : List Nat) : List Value := l.map fun (n : Nat) => Value.int .u64 (n : Int)
theorem rd64_of_owns {base : Nat} {e : TypeId} {S : Nat → Prop} {w : World} {v : Value} {l : List Nat} (h : w.ownsRow base e 1 v l.length (U64s l)) (h64 : ∀ n ∈ l, n < 18446744073709551616) (hS : ∀ k, v.ownBlock = some k → S k) : RdS DU64 1 S w v l := by
 rcases h.2 with ⟨rfl, h0⟩ | ⟨g, cap, cur, rfl, hb, hg, hc, hm, hs, ht⟩
 · have : l = [] := List.eq_nil_of_length_eq_zero h0; subst this; exact ⟨none, 0, rfl, by simp, by unfold maxLen; omega, fun _ => rfl, fun i hi => by simp at hi⟩
 · refine ⟨some ⟨g, 0, none⟩, cap, rfl, hc, hm, (fun e => nomatch e), fun i hi => ⟨g, 0, [.int .u64 (l[i] : Int)], rfl, hS g rfl, lt_of_block hg, rfl, fun j u hu => ?_, rfl, h64 _ (List.getElem_mem hi)⟩⟩
   have hj : j = 0 := by
     have := (List.getElem?_eq_some_iff.1 hu).1; simpa using this
   subst hj; simp at hu; subst hu; have := h.cells (g := g) rfl i (.int .u64 (l[i] : Int)) (by rw [U64s, List.getElem?_map, List.getElem?_eq_getElem hi]; rfl); rw [Addr.add_lit] at this; simpa using this
theorem back_64 {k : Int} {n : Nat} (h : n < 18446744073709551616) : backC k n < 18446744073709551616 := by
 unfold backC; split
 · unfold usg unzig; split <;> split <;> omega
 split
 · omega
 split
 · split <;> omega
 · exact h
theorem rd64_new (w : World) (n : Nat) (h : n < 18446744073709551616) (t : TypeId) : RdS DU64 1 (From w.heap.size) (w.alloc (.cells #[.int .u64 (n : Int)] t)) (.slice (some ⟨w.heap.size, 0, none⟩) 1 1) [n] := by
 refine ⟨some ⟨w.heap.size, 0, none⟩, 1, rfl, by simp, by unfold maxLen; omega, (fun e => nomatch e), fun i hi => ?_⟩; (have : i = 0 := by simpa using hi); subst this; refine ⟨w.heap.size, 0, [.int .u64 (n : Int)], rfl, Nat.le_refl _, by simp, rfl, fun j u hu => ?_, rfl, h⟩
 have hj : j = 0 := by
   have := (List.getElem?_eq_some_iff.1 hu).1; simpa using this
 subst hj; simp at hu; subst hu; exact cell_of_row _ _ 0 _ _ _ (heap_alloc_new w _)
def combP (acc : List Nat) (p : List Nat × Int) : List Nat × Int := if p.2 ≠ 0 then ([], p.2) else (acc ++ p.1, 0)
theorem comb_nil (kind : Int) (acc : List Nat) (f : Nat) : combP acc (packP kind (f + 1) []) = (acc, 0) := by
 rw [packP, if_pos rfl]; simp [combP]
theorem comb_bad {kind : Int} (acc : List Nat) {f : Nat} {l : List UInt8} (hl : l ≠ []) {e : Int} (he : (headC (howC kind) l).2.2 = e) (h0 : e ≠ 0) : combP acc (packP kind (f + 1) l) = ([], e) := by
 rw [packP, if_neg hl, he, if_pos h0]; simp [combP, h0]
theorem comb_more {kind : Int} (acc : List Nat) {f : Nat} {l : List UInt8} (hl : l ≠ []) {n m : Nat} (he : headC (howC kind) l = (n, m, 0)) : combP acc (packP kind (f + 1) l) = combP (acc ++ [backC kind n]) (packP kind f (l.drop m)) := by
 rw [packP, if_neg hl, he, if_neg (by simp)]; simp only [combP]
 by_cases h : (packP kind f (l.drop m)).2 = 0
 · simp [h]
 · simp [h]
set_option maxHeartbeats 3200000 in
theorem numbers_one (x : Fld) (r : Rec) (bf fo b o c3 : Nat) (a3 : Option Addr) (w : World) (hx : FldAt w bf fo x) (h1 : w.cell? ⟨b, o + 1, none⟩ = some (.int .i64 r.how)) (h2 : w.cell? ⟨b, o + 2, none⟩ = some (.int .u64 (r.bits : Int))) (h64 : r.bits < 18446744073709551616)
   (hh : r.how = howC x.kind ∨ (r.how ≠ 2 ∨ x.many = false)) :
   Calls Tryz.prog 134 #[.pointer (some ⟨bf, fo, none⟩), .pointer (some ⟨b, o, none⟩)] w fun e w' => ∃ v', e = .returned (.tuple #[v', .int .i64 (numbersC x r).2]) ∧ RdS DU64 1 (From w.heap.size) w' v' (numbersC x r).1 ∧ Up w w' := by
 obtain ⟨hxb, ⟨x0, x1, x2, x3, x4, x5⟩, hxd⟩ := hx; have hhw := hid (how_c x.kind); have hbk := hid (fun W => back_c x.kind r.bits W h64); have Hb := hid (back_64 (k := x.kind) h64)
 by_cases he : r.how = howC x.kind
 · have hN : numbersC x r = ([backC x.kind r.bits], 0) := if_pos he; rw [hN]; clear hN hh; rw [← he] at hhw; generalize backC x.kind r.bits = bk at *
   go_enter Tryz.func134, Tryz.ntmps134
   go_upto_region 3 with (go_at_call 21; go_must (refine (hhw.out _).mono ?_; rintro e w1 ⟨rfl, rfl⟩))
   have dd : w1.drew.cell? ⟨bf, fo + 2, none⟩ = some (.int .i64 x.kind) ∧ w1.drew.cell? ⟨b, o + 2, none⟩ = some (.int .u64 (r.bits : Int)) := ⟨x2, h2⟩; have DD := hid (fun W (u : Up w1 W) => (⟨u.cell_some x2, u.cell_some h2⟩ : W.cell? ⟨bf, fo + 2, none⟩ = some (.int .i64 x.kind) ∧ W.cell? ⟨b, o + 2, none⟩ = some (.int .u64 (r.bits : Int))))
   go_region_held3 (fun w' => w'.cell? ⟨bf, fo + 2, none⟩ = some (.int .i64 x.kind) ∧ w'.cell? ⟨b, o + 2, none⟩ = some (.int .u64 (r.bits : Int)))
     (first | with_reducible exact dd | with_reducible exact DD.out _ ((Up.refl w1).alloc _).drew | with_reducible exact DD.out _ ((Up.refl w1).drew.alloc _))
     (first | (go_at_call 182; refine (hbk.out _).mono ?_; rintro e w5 ⟨rfl, hw5⟩; subst hw5))
   all_goals
     clear dd; go_wp2_with fail
     go_ret2
     exact ⟨_, rfl, (rd64_new w1 bk Hb.out _).up stable_u64 (Up.refl _).drew, ((Up.refl w1).alloc _).drew⟩
 · (have hN : numbersC x r = ([], 8) := by unfold numbersC; rw [if_neg he, if_pos (hh.resolve_left he)]); rw [hN]; clear hN; (have he2 : (r.how == howC x.kind) = false := by simpa using he); rcases hh.resolve_left he with h | h
   · (have hn2 : (r.how != 2) = true := by simpa using h); generalize howC x.kind = hw at *
     go_enter Tryz.func134, Tryz.ntmps134
     go_wp2_with (go_at_call 21; go_must (refine (hhw.out _).mono ?_; rintro e w1 ⟨rfl, rfl⟩))
     go_ret2
     exact ⟨_, rfl, rdS_nil _ _ _ _, Up.refl _⟩
   · rw [h] at x4
     by_cases h2 : r.how = 2
     · (have hn2 : (r.how != 2) = false := by simpa using h2); generalize howC x.kind = hw at *
       go_enter Tryz.func134, Tryz.ntmps134
       go_wp2_with (go_at_call 21; go_must (refine (hhw.out _).mono ?_; rintro e w1 ⟨rfl, rfl⟩))
       go_ret2
       exact ⟨_, rfl, rdS_nil _ _ _ _, Up.refl _⟩
     · (have hn2 : (r.how != 2) = true := by simpa using h2); generalize howC x.kind = hw at *
       go_enter Tryz.func134, Tryz.ntmps134
       go_wp2_with (go_at_call 21; go_must (refine (hhw.out _).mono ?_; rintro e w1 ⟨rfl, rfl⟩))
       go_ret2
       exact ⟨_, rfl, rdS_nil _ _ _ _, Up.refl _⟩
theorem headC_var {kind : Int} {l : List UInt8} (h : howC kind = 0) : headC (howC kind) l = get l := by unfold headC; rw [if_pos h]
set_option maxHeartbeats 800000 in
theorem numbers_var (x : Fld) (r : Rec) (bf fo b o c3 : Nat) (a3 : Option Addr) (w : World) (hx : FldAt w bf fo x) (h1 : w.cell? ⟨b, o + 1, none⟩ = some (.int .i64 r.how)) (h3 : w.cell? ⟨b, o + 3, none⟩ = some (.slice a3 r.bytes.length c3)) (hr : RdB All w (.slice a3 r.bytes.length c3) r.bytes) (hbl : r.bytes.length ≤ 1099511627776)
   (hh : r.how = 2) (hm : x.many = true) (hv : howC x.kind = 0) :
   Calls Tryz.prog 134 #[.pointer (some ⟨bf, fo, none⟩), .pointer (some ⟨b, o, none⟩)] w fun e w' => ∃ v', e = .returned (.tuple #[v', .int .i64 (numbersC x r).2]) ∧ RdS DU64 1 (From w.heap.size) w' v' (numbersC x r).1 ∧ Up w w' := by
 obtain ⟨hxb, ⟨x0, x1, x2, x3, x4, x5⟩, hxd⟩ := hx; have hhw := how_c x.kind; (have hN : numbersC x r = packP x.kind (r.bytes.length + 1) r.bytes := by unfold numbersC; rw [hh, hv, hm, if_neg (by decide), if_neg (by simp)]); rw [hN]; rw [hv] at hhw; rw [hh] at h1; rw [hm] at x4; have Hhw := hid hhw; have Hr := hid hr; have X2 := hid x2; obtain ⟨ANS, hANS⟩ : ∃ ANS, packP x.kind (r.bytes.length + 1) r.bytes = ANS := ⟨_, rfl⟩; rw [hANS]
 have hA0 : combP [] (packP x.kind (r.bytes.length + 1) r.bytes) = ANS := by
   rw [hANS]
   have h0 : ∀ (f : Nat) (l : List UInt8), (packP x.kind f l).2 ≠ 0 → (packP x.kind f l).1 = [] := by
     intro f l h
     cases f with
     | zero => rfl
     | succ f =>
       rw [packP] at h ⊢; split
       · rfl
       · split
         · rfl
         · rename_i g1 g2; rw [if_neg g1, if_neg g2] at h; simp only at h ⊢; split
           · rfl
           · rename_i g3; rw [if_neg g3] at h; exact absurd rfl h
   have h1 := h0 (r.bytes.length + 1) r.bytes; rw [hANS] at h1; unfold combP; split
   · rename_i g; rw [← h1 g]
   · rename_i g; simp only [ne_eq, Decidable.not_not] at g; rw [List.nil_append, ← g]
 have HA0 := hid hA0; clear hN hA0 hANS hhw hr hh hm hxd x0 x1 x3 x5 hxb x2; obtain ⟨L, hL⟩ : ∃ L, r.bytes = L := ⟨_, rfl⟩; rw [hL] at h3 Hr HA0 hbl; clear hL; have x2 := X2.out
 go_enter Tryz.func134, Tryz.ntmps134
 (go_wp2_with (go_at_call 21; go_must (refine (Hhw.out _).mono ?_; rintro e w1 ⟨rfl, rfl⟩))); clear h1 h3 x4; (go_loopw [7, 8] (fun out left wr => ∃ (j : Nat) (acc : List Nat) (a : Option Addr) (c fu : Nat) (l : List UInt8), left = .slice a l.length c ∧ L.drop j = l ∧ j ≤ L.length ∧ l.length < fu ∧ RdB All w1 (.slice a l.length c) l ∧ wr.ownsRow w1.heap.size 54 1 out acc.length (U64s acc) ∧ acc.length ≤ j ∧ (∀ n ∈ acc, n < 18446744073709551616) ∧ combP acc (packP x.kind fu l) = ANS ∧ Up w1 wr) (fun _ left _ => lenV left)); case atStart => exact ⟨0, [], a3, c3, L.length + 1, L, rfl, rfl, by omega, by omega, Hr.out, World.ownsRow_nil _ _ _ _, by simp, by simp, HA0.out, Up.refl _⟩
 case round =>
   clear HA0; obtain ⟨j, acc, a, c, fu, l, rfl, hl, hj, hfu, hrb, how, hal, hac, hA, hup⟩ := hrel; have Hll := hid (show l.length = L.length - j by rw [← hl, List.length_drop]); obtain ⟨_, _, he, hc1, hc2⟩ := hrb.val; simp only [Value.slice.injEq, true_and] at he; obtain ⟨rfl, rfl⟩ := he; obtain ⟨fu, rfl⟩ : ∃ z, fu = z + 1 := ⟨fu - 1, by omega⟩; have y2 := hup.cell_some X2.out; have hz := hup.size; have How := hid how; have Hac := hid hac; have HA := hid hA; have Hup := hid hup; have Hl := hid hl; have Hrb := hid hrb; clear how hac hA hup hl hrb
   by_cases hpos : 0 < l.length
   · (have hne : l ≠ [] := fun e => by rw [e] at hpos; simp at hpos); (have hpos2 : (0 : Int) < (l.length : Int) := by omega); obtain ⟨n, m, e0, hg⟩ : ∃ n m e0, get l = (n, m, e0) := ⟨_, _, _, rfl⟩; (have hh : headC (howC x.kind) l = (n, m, e0) := by rw [headC_var hv, hg]); have Hget := hid (fun W (u : Up w1 W) => get_eq _ l W n m e0 hg (Hrb.out.up stable_u8 u))
     by_cases he : e0 = 0
     · subst he; obtain ⟨m0, m1, m2, m3⟩ := get_ok (l := l) (by rw [hg]); rw [hg] at m0 m1 m2 m3; simp only at m0 m1 m2 m3; have Hbk := hid (fun W => back_c x.kind n W m3); have Hb := hid (back_64 (k := x.kind) m3); have hA := HA.out; rw [comb_more acc hne hh] at hA; have HA2 := hid hA; clear hA HA hh hg; generalize backC x.kind n = bk at *; (have hms : ¬ ((l.length : Int) < (m : Int)) := by omega); have hms2 : (m : Int) ≤ (l.length : Int) := by omega
       go_wp2_with (first
         | (go_at_call 105; go_must (refine (Hget.out _ Hup.out).mono ?_; rintro e w5 ⟨rfl, hw5⟩; subst hw5))
         | (go_at_call 182; go_must (refine (Hbk.out _).mono ?_; rintro e w5 ⟨rfl, hw5⟩; subst hw5))
         | (at_builtin; go_must (refine wpList_app1 eU64c _ (by rfl) _ _ (by rfl) w1.heap.size _ _ _ (by rfl) How.out _ (by rfl) (by first | rfl | simp) (by rfl) (oc (by rfl)) (by omega) (by unfold maxLen; omega) (by first | omega | (simp; omega)) ?_; intro v3 w3 how3 hev3)))
       all_goals
         go_roundw
         case rel =>
           refine ⟨j + m, acc ++ [bk], (if c = m then a else a.map (·.add m)), c - m, fu, l.drop m, by rw [List.length_drop], by rw [← Hl.out, List.drop_drop], by have := Hll.out; omega, by rw [List.length_drop]; omega, ?_, by simpa [U64s] using how3, by simp; omega, ?_, HA2.out, Hup.out.evo hev3 (fun k hk => (How.out.lt k hk).1)⟩
           · exact RdB.drop Hrb.out m m1 (fun h => by rw [if_neg h]) (by rw [List.length_drop]) rfl
           · intro z hz; rcases List.mem_append.1 hz with h | h
             · exact Hac.out z h
             · simp at h; subst h; exact Hb.out
         case measure => simp only [lenV]; omega
     · have hA := HA.out; rw [comb_bad acc hne (by rw [hh]) he] at hA; (have he2 : (e0 == 0) = false := by simpa using he); (have he3 : (e0 != 0) = true := by simpa using he); clear hh hg; go_wp2_with (go_at_call 105; go_must (refine (Hget.out _ Hup.out).mono ?_; rintro e w5 ⟨rfl, hw5⟩; subst hw5))
       go_ret2
       rw [← hA]; exact ⟨_, rfl, rdS_nil _ _ _ _, Hup.out⟩
   · have hle : l = [] := List.eq_nil_of_length_eq_zero (by omega); (have hnp : ¬ ((0 : Int) < (l.length : Int)) := by omega); go_wp2_with fail
     go_ret2
     have hA := HA.out; rw [hle, comb_nil] at hA; rw [← hA]; exact ⟨_, rfl, rd64_of_owns How.out Hac.out (fun k hk => (How.out.lt k hk).1), Hup.out⟩
end Go.Proofs.YtbceapeoknngnaaGreatDoor
