/-
  Package wire in plain Lean: what is written is read.
  codec.How, bits, pack.
  Fits, of both.
-/
import Derived.Test.YtbceapeoknngnaaGreatDoorTx12
namespace Go.Proofs.YtbceapeoknngnaaGreatDoor
open Go.Lib
theorem lowVal_lowB : ∀ (k n : Nat), lowVal (lowB k n) = n % 256 ^ k
 | 0, n => by simp [lowB, lowVal, Nat.mod_one]
 | k + 1, n => by
   (have hc : n.toUInt8.toNat = n % 256 := by simp only [Nat.toUInt8_eq, UInt8.toNat_ofNat']); rw [lowB, lowVal, lowVal_lowB k, hc, Nat.pow_succ', Nat.mod_mul]
theorem numB_put (k n : Nat) (m : List UInt8) (h : n < 256 ^ k) : numB k (lowB k n ++ m) = (n, 0) := by
 unfold numB; rw [if_neg (by rw [List.length_append, lowB_length]; omega)]
 have e : (lowB k n ++ m).take k = lowB k n := by
   rw [List.take_append_of_le_length (by rw [lowB_length]; omega), List.take_of_length_le (by rw [lowB_length]; omega)]
 rw [e, lowVal_lowB, Nat.mod_eq_of_lt h]
theorem oneP_put (r : Rec) (hr : wrongRec r = 0) (h64 : r.bits < 2 ^ 64) (m : List UInt8) : oneP (oneB r ++ m) = (0, r, (oneB r).length) := by
 obtain ⟨n1, n2, hh, hb4, hy⟩ := wrongRec_ok hr; obtain ⟨number, how, bits, bytes⟩ := r; simp only at *; obtain ⟨N, rfl⟩ := Int.eq_ofNat_of_zero_le (show 0 ≤ number by omega); obtain ⟨H, rfl⟩ := Int.eq_ofNat_of_zero_le (show 0 ≤ how by omega); (have hH : H < 8 := by omega); have hg : ∀ t, get (uvarint (8 * N + H) ++ t) = (8 * N + H, (uvarint (8 * N + H)).length, 0) := fun t => get_put _ _ (by omega); (have hd : (8 * N + H) / 8 = N := by omega); (have hm : (8 * N + H) % 8 = H := by omega); unfold oneB tagB; simp only [Int.toNat_natCast]; generalize hp : (if (H : Int) = 0 then uvarint bits else if (H : Int) = 1 then lowB 8 bits else if (H : Int) = 5 then lowB 4 bits else uvarint bytes.length ++ bytes) = pl; rw [List.append_assoc]; unfold oneP; simp only; rw [hg]; simp only; rw [hd, hm, List.drop_left, if_neg (by simp), if_neg (by omega)]
 by_cases h0 : H = 0
 · rw [if_pos h0]; rw [if_pos (by omega)] at hp; subst hp; rw [get_put _ _ h64]; rcases hy with h | h
   · omega
   · simp [h.2, h0]
 · rw [if_neg h0]; rw [if_neg (by omega)] at hp
   by_cases h1 : H = 1
   · rw [if_pos h1]; rw [if_pos (by omega)] at hp; subst hp; rw [numB_put 8 _ _ (by omega)]; rcases hy with h | h
     · omega
     · simp [h.2, lowB_length, h1]
   · rw [if_neg h1]; rw [if_neg (by omega)] at hp
     by_cases h5 : H = 5
     · rw [if_pos h5]; rw [if_pos (by omega)] at hp; subst hp; rw [numB_put 4 _ _ (by have := hb4 (by omega); omega)]; rcases hy with h | h
       · omega
       · simp [h.2, lowB_length, h5]
     · rw [if_neg h5]; rw [if_neg (by omega)] at hp; (have h2 : H = 2 := by omega); subst hp; rcases hy with ⟨_, hb, hl⟩ | ⟨h, _⟩
       · rw [if_pos h2, List.append_assoc, get_put _ _ (by omega)]; simp only; rw [if_neg (by simp), if_neg (by simp only [List.length_append]; omega), List.drop_left, List.take_left]; subst hb; simp only [List.length_append, Prod.mk.injEq, true_and, Rec.mk.injEq, and_true]; refine ⟨by omega, by omega⟩
       · omega
theorem getF_min : ∀ (l : List UInt8) (i n : Nat), (getF i n l).2.2 = 0 → ∃ x, (getF i n l).1 = n + x * 2 ^ (7 * i) ∧ (uvarint x).length + i ≤ (getF i n l).2.1
 | [], i, n, h => by simp [getF] at h
 | c :: r, i, n, h => by
   rw [getF] at h ⊢
   by_cases h9 : i = 9 ∧ 1 < c.toNat
   · rw [if_pos h9] at h; simp at h
   · rw [if_neg h9] at h ⊢
     by_cases h1 : c.toNat < 128
     · rw [if_pos h1] at h ⊢; refine ⟨c.toNat, rfl, ?_⟩; rw [uvarint_small h1]; simp; omega
     · rw [if_neg h1] at h ⊢; obtain ⟨x, e, hl⟩ := getF_min r (i + 1) _ h; refine ⟨c.toNat % 128 + x * 128, ?_, ?_⟩
       · (have h2 : 2 ^ (7 * (i + 1)) = 128 * 2 ^ (7 * i) := by rw [show 7 * (i + 1) = 7 + 7 * i by omega, Nat.pow_add]); rw [e, Nat.add_mul, h2, Nat.mul_assoc]; omega
       · by_cases hx : c.toNat % 128 + x * 128 < 128
         · rw [uvarint_small hx]; have := uvarint_pos x; simp; omega
         · rw [uvarint_big (by omega), List.length_cons, show (c.toNat % 128 + x * 128) / 128 = x by omega]; omega
theorem get_min {l : List UInt8} (h : (get l).2.2 = 0) : (uvarint (get l).1).length ≤ (get l).2.1 := by
 obtain ⟨x, e, hl⟩ := getF_min l 0 0 h; simp only [Nat.mul_zero, Nat.pow_zero, Nat.mul_one, Nat.zero_add, Nat.add_zero] at e hl; rw [e]; exact hl
theorem oneP_right {l : List UInt8} (h : (oneP l).1 = 0) (hl : l.length ≤ 4000) : wrongRec (oneP l).2.1 = 0 ∧ (oneB (oneP l).2.1).length ≤ (oneP l).2.2 := by
 revert h; have hg := @get_ok l; have hgm := @get_min l; unfold oneP; simp only; generalize get l = g at *; obtain ⟨tag, at_, e0⟩ := g; simp only at *
 by_cases he : e0 = 0
 · subst he; obtain ⟨k1, k2, k3, k4⟩ := hg rfl; have hmin := hgm rfl; rw [if_neg (by simp)]
   by_cases hn : tag / 8 < 1 ∨ 536870912 ≤ tag / 8
   · rw [if_pos hn]; intro h; simp at h
   · rw [if_neg hn]; have ht : ∀ H, tag % 8 = H → tagB (tag / 8) H = uvarint tag := fun H hH => by unfold tagB; congr 1; omega
     by_cases h0 : tag % 8 = 0
     · rw [if_pos h0]; have h2 := @get_min (l.drop at_); generalize get (l.drop at_) = h at *
       by_cases h1 : h.2.2 = 0
       · rw [if_neg (by simpa using h1)]; intro _; have h2 := h2 h1; refine ⟨by simp [wrongRec]; omega, ?_⟩; simp only [oneB, Int.toNat_natCast, if_pos, List.length_append]; rw [show Int.toNat 0 = 0 from rfl, ht 0 h0]; omega
       · rw [if_pos h1]; intro h; exact absurd h h1
     · rw [if_neg h0]
       by_cases h8 : tag % 8 = 1
       · rw [if_pos h8]; generalize numB 8 (l.drop at_) = h at *
         by_cases h1 : h.2 = 0
         · rw [if_neg (by simpa using h1)]; intro _; refine ⟨by simp [wrongRec]; omega, ?_⟩; simp only [oneB, Int.toNat_natCast, List.length_append]; rw [show Int.toNat 1 = 1 from rfl, ht 1 h8, if_neg (by decide), if_pos trivial, lowB_length]; omega
         · rw [if_pos h1]; intro h; exact absurd h h1
       · rw [if_neg h8]
         by_cases h5 : tag % 8 = 5
         · rw [if_pos h5]
           have hlt : (numB 4 (l.drop at_)).1 < 4294967296 := by
             unfold numB; split
             · simp
             · have := lowVal_lt ((l.drop at_).take 4); rw [List.length_take] at this; have h2 : 2 ^ (8 * min 4 (l.drop at_).length) ≤ 2 ^ 32 := Nat.pow_le_pow_right (by decide) (by omega); simp only; omega
           generalize numB 4 (l.drop at_) = h at *
           by_cases h1 : h.2 = 0
           · rw [if_neg (by simpa using h1)]; intro _; refine ⟨by simp [wrongRec]; omega, ?_⟩; simp only [oneB, Int.toNat_natCast, List.length_append]; rw [show Int.toNat 5 = 5 from rfl, ht 5 h5, if_neg (by decide), if_neg (by decide), if_pos trivial, lowB_length]; omega
           · rw [if_pos h1]; intro h; exact absurd h h1
         · rw [if_neg h5]
           by_cases h2 : tag % 8 = 2
           · rw [if_pos h2]; have hm2 := @get_min (l.drop at_); generalize get (l.drop at_) = h at *
             by_cases h1 : h.2.2 = 0
             · rw [if_neg (by simpa using h1)]; have hm2 := hm2 h1
               by_cases hx : (l.drop at_).length - h.2.1 < h.1
               · rw [if_pos hx]; intro h; simp at h
               · rw [if_neg hx]; intro _; rw [List.length_drop] at hx
                 have hlen : (((l.drop at_).drop h.2.1).take h.1).length = h.1 := by
                   rw [List.length_take, List.length_drop, List.length_drop]; omega
                 refine ⟨?_, ?_⟩
                 · simp only [wrongRec, hlen]; simp; omega
                 · simp only [oneB, Int.toNat_natCast, List.length_append, hlen]; rw [show Int.toNat 2 = 2 from rfl, ht 2 h2, if_neg (by decide), if_neg (by decide), if_neg (by decide)]; rw [List.length_append, hlen]; omega
             · rw [if_pos h1]; intro h; exact absurd h h1
           · rw [if_neg h2]; intro h; simp at h
 · rw [if_pos he]; intro h; exact absurd h he
theorem oneB_pos (r : Rec) : 0 < (oneB r).length := by
 unfold oneB tagB; rw [List.length_append]; have := uvarint_pos (8 * r.number.toNat + r.how.toNat); omega
theorem parseG_put : ∀ (l : List Rec) (f : Nat), (∀ r ∈ l, wrongRec r = 0 ∧ r.bits < 2 ^ 64) → (l.flatMap oneB).length < f → parseG f (l.flatMap oneB) = (l, 0, 0)
 | [], f, _, _ => by cases f <;> simp [parseG]
 | r :: l, 0, _, h => by omega
 | r :: l, f + 1, h, hf => by
   have hp := oneB_pos r
   have hne : oneB r ++ l.flatMap oneB ≠ [] := fun e => by
     have := congrArg List.length e; simp only [List.length_append, List.length_nil] at this; omega
   rw [List.flatMap_cons, List.length_append] at hf; rw [List.flatMap_cons, parseG, if_neg hne, oneP_put r (h r (by simp)).1 (h r (by simp)).2]; simp only; rw [List.drop_left, parseG_put l f (fun x hx => h x (by simp [hx])) (by omega)]; simp
theorem parseG_right : ∀ (f : Nat) (l : List UInt8), l.length ≤ 4000 → (parseG f l).2.1 = 0 → l.length < f → (∀ r ∈ (parseG f l).1, wrongRec r = 0 ∧ r.bits < 2 ^ 64) ∧ ((parseG f l).1.flatMap oneB).length ≤ l.length
 | 0, _, _, _, h => by omega
 | f + 1, l, hl, h, hf => by
   rw [parseG] at h ⊢
   by_cases hn : l = []
   · rw [if_pos hn]; simp
   · rw [if_neg hn] at h ⊢
     by_cases ho : (oneP l).1 = 0
     · have hk := oneP_ok ho; have hr := oneP_right ho hl; rw [if_neg (by simpa using ho)] at h ⊢; simp only at h ⊢
       by_cases hp : (parseG f (l.drop (oneP l).2.2)).2.1 = 0
       · rw [if_neg (by simpa using hp)]; obtain ⟨h1, h2⟩ := parseG_right f _ (by rw [List.length_drop]; omega) hp (by rw [List.length_drop]; omega); refine ⟨fun r hr' => ?_, ?_⟩
         · rcases List.mem_cons.1 hr' with rfl | hx
           · exact ⟨hr.1, hk.2.2.1⟩
           · exact h1 r hx
         · rw [List.flatMap_cons, List.length_append]; rw [List.length_drop] at h2; omega
       · rw [if_pos hp] at h; exact absurd h hp
     · rw [if_pos ho] at h; exact absurd h ho
end Go.Proofs.YtbceapeoknngnaaGreatDoor
set_option linter.unusedVariables false
namespace Go.Proofs.YtbceapeoknngnaaGreatDoor
open Go.RowKit
set_option maxRecDepth 100000
set_option maxHeartbeats 800000 in
theorem how_c (k : Int) (w : World) :
   Calls Tryz.prog 21 #[.int .i64 k] w fun e w' => e = .returned (.int .i64 (howC k)) ∧ w' = w := by
 obtain ⟨h, hh⟩ : ∃ h, howC k = h := ⟨_, rfl⟩; rw [hh]; unfold howC at hh
 by_cases h6 : k = 6
 · subst h6; subst hh
   go_enter Tryz.func21, Tryz.ntmps21
   go_wp2_with fail
   go_ret
   exact ⟨rfl, rfl⟩
 by_cases h7 : k = 7
 · subst h7; subst hh
   go_enter Tryz.func21, Tryz.ntmps21
   go_wp2_with fail
   go_ret
   exact ⟨rfl, rfl⟩
 by_cases h8 : k = 8
 · subst h8; subst hh
   go_enter Tryz.func21, Tryz.ntmps21
   go_wp2_with fail
   go_ret
   exact ⟨rfl, rfl⟩
 by_cases h9 : k = 9
 · subst h9; subst hh
   go_enter Tryz.func21, Tryz.ntmps21
   go_wp2_with fail
   go_ret
   exact ⟨rfl, rfl⟩
 by_cases h10 : k = 10
 · subst h10; subst hh
   go_enter Tryz.func21, Tryz.ntmps21
   go_wp2_with fail
   go_ret
   exact ⟨rfl, rfl⟩
 rw [if_neg h6, if_neg h7, if_neg (by simp [h8, h9, h10])] at hh; subst hh; (have b6 : (k == 6) = false := by simpa using h6); (have b7 : (k == 7) = false := by simpa using h7); (have b8 : (k == 8) = false := by simpa using h8); (have b9 : (k == 9) = false := by simpa using h9); (have b10 : (k == 10) = false := by simpa using h10); clear h6 h7 h8 h9 h10
 go_enter Tryz.func21, Tryz.ntmps21
 go_wp2_with fail
 go_ret
 exact ⟨rfl, rfl⟩
theorem sgn_wrap (n : Nat) (hn : n < 18446744073709551616) : wrap64 (n : Int) = sgn n := by
 unfold sgn wrap64; split <;> omega
theorem told_64 {k : Int} {n : Nat} (hn : n < 18446744073709551616) : toldC k n < 18446744073709551616 := by
 unfold toldC; split
 · (have h0 : -9223372036854775808 ≤ sgn n ∧ sgn n ≤ 9223372036854775807 := by unfold sgn; split <;> omega); unfold Lib.zigzag; split <;> omega
 · exact hn
theorem told_right {k : Int} {n : Nat} (num : Int) (h1 : 1 ≤ num) (h2 : num < 536870912) (hk : howC k ≠ 2) (h7 : k = 7 → n < 4294967296) : wrongRec ⟨num, howC k, toldC k n, []⟩ = 0 := by
 have hh : howC k = 0 ∨ howC k = 1 ∨ howC k = 5 := by
   unfold howC at hk ⊢
   by_cases h6 : k = 6
   · rw [if_pos h6]; omega
   by_cases g : k = 7
   · rw [if_neg h6, if_pos g]; omega
   rw [if_neg h6, if_neg g] at hk ⊢; split at hk
   · exact absurd rfl hk
   · left; rw [if_neg (by assumption)]
 have h5 : howC k = 5 → toldC k n < 4294967296 := by
   intro h
   have e : k = 7 := by
     unfold howC at h
     by_cases h6 : k = 6
     · rw [if_pos h6] at h; cases h
     by_cases g : k = 7
     · exact g
     rw [if_neg h6, if_neg g] at h; split at h <;> cases h
   subst e; have := h7 rfl; unfold toldC; rw [if_neg (by decide)]; exact this
 generalize howC k = hw at *; generalize toldC k n = b at *; unfold wrongRec; simp only; rw [if_pos (by omega), if_neg (by omega), if_neg (by intro h; rcases h with h | h | ⟨h, g⟩ <;> first | omega | (have := h5 h; omega)), if_neg (by simp; omega)]
set_option maxHeartbeats 800000 in
theorem fits_any (kind : Int) (n : Nat) (w : World) (hn : n < 2 ^ 64) :
   Calls Tryz.prog 174 #[.int .i64 kind, .int .u64 n] w fun e w' => e = .returned (.int .i64 (fitsN kind n)) ∧ w' = w := by
 go_enter Tryz.func174, Tryz.ntmps174
 go_wp2_with fail
 all_goals
   go_ret
   refine ⟨ret_int ?_, rfl⟩; unfold fitsN; simp only [beq_iff_eq, beq_eq_false_iff_ne, ne_eq, bne_iff_ne, bne_eq_false_iff_eq, IntKind.wrap_u64, wrap64, wrap32] at *
   (repeat' split) <;> omega
end Go.Proofs.YtbceapeoknngnaaGreatDoor
