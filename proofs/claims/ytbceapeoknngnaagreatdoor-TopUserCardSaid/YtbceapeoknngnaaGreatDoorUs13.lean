/-
  Package wire: Tag, fixed, Add, onto a row of the call's own.
  Package wire in plain Lean: a number comes back.
  Package wire in plain Lean: what is written is read.
  codec.How, bits, pack.
  wire.Open.
  codec.back.
  Package wire: Get.
-/
import Derived.Test.YtbceapeoknngnaaGreatDoorUs12
namespace Go.Proofs.YtbceapeoknngnaaGreatDoor
open Go.RowKit
set_option maxRecDepth 100000
open Lib (hid)
theorem put_eq (base : Nat) (v : Value) (l : List UInt8) (X : Int) (x : Nat) (w : World) (hX : X = (x : Int)) (hx : x < 2 ^ 64) (hl : l.length ≤ 1099511627776)
   (hown : w.ownsRow base 5 1 v l.length (B8 l)) (hb : base ≤ w.heap.size) :
   Calls Tryz.prog 109 #[v, .int .u64 X] w fun e w' => ∃ v', e = .returned v' ∧ w'.ownsRow base 5 1 v' (l ++ Lib.uvarint x).length (B8 (l ++ Lib.uvarint x)) ∧ Evo w w' v v' := by
 subst hX; exact put_own base v l x w hx hl hown hb
set_option maxHeartbeats 400000 in
theorem tag_own (base : Nat) (v : Value) (l : List UInt8) (n h : Int) (w : World) (n0 : 0 ≤ n) (n1 : n < 536870912) (h0 : 0 ≤ h) (h1 : h < 8) (hl : l.length ≤ 1099511627776)
   (hown : w.ownsRow base 5 1 v l.length (B8 l)) (hb : base ≤ w.heap.size) :
   Calls Tryz.prog 108 #[v, .int .i64 n, .int .i64 h] w fun e w' => ∃ v', e = .returned v' ∧ w'.ownsRow base 5 1 v' (l ++ tagB n.toNat h.toNat).length (B8 (l ++ tagB n.toNat h.toNat)) ∧ Evo w w' v v' := by
 have hb2 := tag_bits n h n0 n1 h0 h1; have Hb2 := hid hb2; clear hb2
 go_enter Tryz.func108, Tryz.ntmps108
 (go_wp2_with fail); refine (put_eq base _ l _ (8 * n.toNat + h.toNat) _ Hb2.out (by omega) hl hown hb).mono ?_; rintro e w1 ⟨v1, rfl, how1, hev1⟩; go_wp2_with fail
 go_ret
 exact ⟨_, rfl, how1, hev1⟩
set_option maxHeartbeats 400000 in
theorem fixed_own (base : Nat) (v : Value) (l : List UInt8) (x size : Nat) (w : World) (hx : x < 2 ^ 64) (hs : size ≤ 8) (hl : l.length ≤ 1099511627776)
   (hown : w.ownsRow base 5 1 v l.length (B8 l)) (hb : base ≤ w.heap.size) :
   Calls Tryz.prog 110 #[v, .int .u64 x, .int .i64 size] w fun e w' => ∃ v', e = .returned v' ∧ w'.ownsRow base 5 1 v' (l ++ lowB size x).length (B8 (l ++ lowB size x)) ∧ Evo w w' v v' := by
 have Hx := hid hx; clear hx
 go_enter Tryz.func110, Tryz.ntmps110
 go_wp2_with fail
 go_loopw [0, 1, 8] (fun s y i wr => ∃ (d : List UInt8) (z k : Nat), z < 2 ^ 64 ∧ k ≤ size ∧ y = .int .u64 z ∧ i = .int .i64 k ∧ d ++ lowB (size - k) z = lowB size x ∧ wr.ownsRow base 5 1 s (l ++ d).length (B8 (l ++ d)) ∧ Evo w wr v s)
   (fun _ _ i _ => size - (intOf i).toNat)
 case atStart => exact ⟨[], x, 0, Hx.out, by omega, rfl, rfl, rfl, by simpa using hown, Evo.refl _ _⟩
 case round =>
   obtain ⟨d, z, k, hz, hk, rfl, rfl, hd, how, hev⟩ := hrel
   have hdl : (l ++ d).length ≤ 1099511627776 + 8 := by
     have h1 := congrArg List.length hd; simp only [List.length_append, lowB_length] at h1 ⊢; omega
   (have hsz : base ≤ wr.heap.size := by have := hev.grown.size; omega); have Hz := hid hz; clear hz; have Hd := hid hd; clear hd; have Hev := hid hev; clear hev
   by_cases hlt : k < size
   · go_wp2_with (at_builtin; go_loud (refine wpList_app_one eU8 wr rfl _ _ rfl base _ _ _ rfl how rfl rfl (by intro u hu; simp at hu; subst hu; rfl) (by omega) (by unfold maxLen; omega) (by omega) ?_); intro v1 w1 how1 (hev1 : Evo wr w1 u0 v1))
     go_roundw
     case rel =>
       refine ⟨d ++ [z.toUInt8], z / 256, k + 1, by have := Hz.out; omega, by omega, rfl, by go_num, ?_, ?_, Hev.out.trans hev1⟩
       · rw [← Hd.out, show size - k = (size - (k + 1)) + 1 by omega, lowB]; simp
       · have e : Value.int .u8 ((z : Int) % 256) = .int .u8 ((z.toUInt8.toNat : Nat) : Int) := by
           rfl
         rw [e] at how1; simpa [B8, ← List.append_assoc, Nat.add_assoc] using how1
     case measure => simp [intOf]; omega
   · go_wp2_with fail
     go_ret
     have hd := Hd.out; rw [show size - k = 0 by omega, lowB, List.append_nil] at hd; rw [← hd]; exact ⟨_, rfl, how, Hev.out⟩
set_option maxHeartbeats 400000 in
theorem add_own (base : Nat) (v : Value) (l : List UInt8) (r : Rec) (vb : Value) (w : World) (hv : RdB (Av v) w vb r.bytes) (hr : wrongRec r = 0) (hb64 : r.bits < 2 ^ 64) (hl : l.length ≤ 1099511627776 - 4100)
   (hown : w.ownsRow base 5 1 v l.length (B8 l)) (hb : base ≤ w.heap.size) :
   Calls Tryz.prog 59 #[v, .agg #[.int .i64 r.number, .int .i64 r.how, .int .u64 r.bits, vb]] w fun e w' => ∃ v', e = .returned v' ∧ w'.ownsRow base 5 1 v' (l ++ oneB r).length (B8 (l ++ oneB r)) ∧ Evo w w' v v' := by
 obtain ⟨n1, n2, hh, hb4, hy⟩ := wrongRec_ok hr; obtain ⟨ao, cap, rfl, hc1, hc2⟩ := hv.val; obtain ⟨number, how, bits, bytes⟩ := r; simp only at *; have htl := tagB_length number.toNat how.toNat (by omega) (by omega); have Hb64 := hid hb64; clear hb64; have Hr := hid hr; clear hr; have Hv := hid hv; clear hv; have Hown := hid hown; clear hown
 go_enter Tryz.func59, Tryz.ntmps59
 (go_wp2_with fail); refine (tag_own base _ l number how _ (by omega) (by omega) (by omega) (by omega) (by omega) (Hown.out.alloc _) (by simp; omega)).mono ?_; rintro e w1 ⟨v1, rfl, how1, hev1⟩; have hblk := Evo.box hev1 (fun k hk => (Hown.out.lt k hk).2); have c1 : w1.cell? ⟨w.heap.size, 1, none⟩ = some (.int .i64 how) := cell_of_row w1 _ 1 _ _ _ hblk; have c2 : w1.cell? ⟨w.heap.size, 2, none⟩ = some (.int .u64 (bits : Int)) := cell_of_row w1 _ 2 _ _ _ hblk; have c3 : w1.cell? ⟨w.heap.size, 3, none⟩ = some (.slice ao bytes.length cap) := cell_of_row w1 _ 3 _ _ _ hblk; (have hs1 : w.heap.size < w1.heap.size := by have := hev1.grown.size; simp at this; omega); (have hlt : (l ++ tagB number.toNat how.toNat).length ≤ 1099511627776 - 4095 := by simp only [List.length_append]; omega); have Hblk := hid hblk; clear hblk; have hev := Evo.of_alloc hev1; have Hev := hid hev; clear hev; have How1 := hid how1; clear how1; have Hev1 := hid hev1; clear hev1; have Hlt := hid hlt; clear hlt; have Hhy := hid hy; clear hy; have Hb4 := hid hb4; clear hb4; rcases hh with rfl | rfl | rfl | rfl
 · (go_wp2_with fail); refine (put_own base _ _ bits _ Hb64.out (by have := Hlt.out; omega) How1.out (by omega)).mono ?_; rintro e w2 ⟨v2, rfl, how2, hev2⟩; go_wp2_with fail
   go_ret
   rw [List.append_assoc] at how2; exact ⟨_, rfl, how2, Hev.out.trans hev2⟩
 · (go_wp2_with fail); refine (fixed_own base _ _ bits 8 _ Hb64.out (by omega) (by have := Hlt.out; omega) How1.out (by omega)).mono ?_; rintro e w2 ⟨v2, rfl, how2, hev2⟩; go_wp2_with fail
   go_ret
   rw [List.append_assoc] at how2; exact ⟨_, rfl, how2, Hev.out.trans hev2⟩
 · (go_wp2_with fail); refine (fixed_own base _ _ bits 4 _ Hb64.out (by omega) (by have := Hlt.out; omega) How1.out (by omega)).mono ?_; rintro e w2 ⟨v2, rfl, how2, hev2⟩; go_wp2_with fail
   go_ret
   rw [List.append_assoc] at how2; exact ⟨_, rfl, how2, Hev.out.trans hev2⟩
 · have Hv1 := hid (Hv.out.keep stable_u8 (Keep.evo Hev.out))
   have hne : v1.ownBlock ≠ some w.heap.size := fun e => by
     rcases How1.out.2 with ⟨rfl, _⟩ | ⟨g, cap', cur, rfl, _, hg, _⟩
     · cases e
     · simp only [Value.ownBlock, Option.some.injEq] at e; subst e; rw [Hblk.out] at hg; simp at hg
   have Hne := hid hne; clear hne; have hby : bytes.length ≤ 4000 := by rcases Hhy.out with h | h <;> omega
   have hsum : (l ++ tagB number.toNat (Int.toNat 2) ++ Lib.uvarint bytes.length).length + bytes.length ≤ 1099511627776 + 100 := by
     have h1 := Hlt.out; have h2 := Lib.uvarint_length64 (x := bytes.length) (by omega); rw [List.length_append]; omega
   have Hsum := hid hsum; clear hsum; go_wp2_with fail
   go_region_held3 (fun w' => w'.cell? ⟨w.heap.size, 3, none⟩ = some (.slice ao bytes.length cap)) (first | go_keep | exact cell_of_row _ _ 3 _ _ _ (hev2.undrew.blk Hblk.out Hne.out) | exact cell_of_row _ _ 3 _ _ _ ((hev2.undrew.trans hev3).blk Hblk.out Hne.out))
     (first | (go_at_call 109; refine (put_eq base _ _ _ bytes.length _ (by rw [IntKind.wrap_u64]; omega) (by omega) (by have := Hlt.out; omega) How1.out.drew (by simp; omega)).mono ?_; rintro e w2 ⟨v2, rfl, how2, hev2⟩; have Hrd2 := hid (RdB.news (Hv1.out.keep stable_u8 (Keep.evo hev2.undrew))); have hs2 : base ≤ w2.heap.size := by have h9 := hev2.undrew.grown.size; omega) | (refine step_app eU8 _ (by rfl) _ _ (by rfl) base v2 _ _ (by rfl) how2 ao bytes.length cap (by rfl) (B8 bytes) (by simp [B8]) (Hrd2.out.2.1) (Hrd2.out.2.2) (B8_one _) (by have := Hsum.out; omega) (by have := Hsum.out; unfold maxLen; omega) (by omega) ?_; intro v3 w3 how3 hev3))
   go_wp2_with fail
   go_ret
   refine ⟨_, rfl, ?_, Hev.out.trans (hev2.undrew.trans hev3)⟩; (have e : l ++ oneB ⟨number, 2, bits, bytes⟩ = l ++ tagB number.toNat (Int.toNat 2) ++ Lib.uvarint bytes.length ++ bytes := by simp [oneB]); rw [e, List.length_append, B8_append]; exact how3
end Go.Proofs.YtbceapeoknngnaaGreatDoor
namespace Go.Proofs.YtbceapeoknngnaaGreatDoor
open Go.Lib
theorem getF_put (m : List UInt8) : ∀ (f x i n : Nat), x < f → i ≤ 9 → x < 2 ^ (64 - 7 * i) → getF i n (uvarint x ++ m) = (n + x * 2 ^ (7 * i), i + (uvarint x).length, 0)
 | 0, _, _, _, h, _, _ => by omega
 | f + 1, x, i, n, hf, hi, hx => by
   by_cases h : x < 128
   · (have hc : x.toUInt8.toNat = x := by simp only [Nat.toUInt8_eq, UInt8.toNat_ofNat']; omega); rw [uvarint_small h, List.cons_append, getF, hc, if_neg ?_, if_pos h]
     · simp
     · rintro ⟨rfl, h1⟩; have : x < 2 ^ (64 - 7 * 9) := hx; omega
   · have hc : (x % 128 + 128).toUInt8.toNat = x % 128 + 128 := by simp only [Nat.toUInt8_eq, UInt8.toNat_ofNat']; omega
     have hi9 : i ≠ 9 := by
       rintro rfl; have : x < 2 ^ (64 - 7 * 9) := hx; omega
     rw [uvarint_big (by omega), List.cons_append, getF, hc, if_neg (by omega), if_neg (by omega), getF_put m f (x / 128) (i + 1) _ (by omega) (by omega) ?_]
     · (have e : (x % 128 + 128) % 128 = x % 128 := by omega); rw [e]; (have e2 : 2 ^ (7 * (i + 1)) = 128 * 2 ^ (7 * i) := by rw [show 7 * (i + 1) = 7 + 7 * i by omega, Nat.pow_add]); rw [e2]; (have e3 : x / 128 * (128 * 2 ^ (7 * i)) = (x / 128 * 128) * 2 ^ (7 * i) := by rw [Nat.mul_assoc]); rw [e3, Nat.add_assoc, ← Nat.add_mul]; (have e4 : x % 128 + x / 128 * 128 = x := by omega); rw [e4]; simp only [List.length_cons, Prod.mk.injEq, and_true, true_and]; omega
     · (have e : 64 - 7 * i = 7 + (64 - 7 * (i + 1)) := by omega); rw [e, Nat.pow_add] at hx; exact Nat.div_lt_of_lt_mul (by simpa using hx)
theorem get_put (x : Nat) (m : List UInt8) (hx : x < 2 ^ 64) : get (uvarint x ++ m) = (x, (uvarint x).length, 0) := by
 have := getF_put m (x + 1) x 0 0 (by omega) (by omega) (by simpa using hx); simpa using this
theorem unzig_zigzag (s : Int) : unzig (zigzag s) = s := by
 unfold zigzag unzig; split
 · rename_i h; rw [if_pos (by omega)]; omega
 · rename_i h; rw [if_neg (by omega)]; omega
theorem unzig_range {n : Nat} (h : n < 2 ^ 64) : -9223372036854775808 ≤ unzig n ∧ unzig n ≤ 9223372036854775807 := by
 unfold unzig; split <;> omega
theorem lowVal_lowB : ∀ (k n : Nat), lowVal (lowB k n) = n % 256 ^ k
 | 0, n => by simp [lowB, lowVal, Nat.mod_one]
 | k + 1, n => by
   (have hc : n.toUInt8.toNat = n % 256 := by simp only [Nat.toUInt8_eq, UInt8.toNat_ofNat']); rw [lowB, lowVal, lowVal_lowB k, hc, Nat.pow_succ', Nat.mod_mul]
theorem numB_put (k n : Nat) (m : List UInt8) (h : n < 256 ^ k) : numB k (lowB k n ++ m) = (n, 0) := by
 unfold numB; rw [if_neg (by rw [List.length_append, lowB_length]; omega)]
 have e : (lowB k n ++ m).take k = lowB k n := by
   rw [List.take_append_of_le_length (by rw [lowB_length]; omega), List.take_of_length_le (by rw [lowB_length]; omega)]
 rw [e, lowVal_lowB, Nat.mod_eq_of_lt h]
theorem oneP_put (r : Rec) (hr : wrongRec r = 0) (h64 : r.bits < 2 ^ 64) (m : List UInt8) : oneP (oneB r ++ m) = (0, r, (oneB r).length) := by
 obtain ⟨n1, n2, hh, hb4, hy⟩ := wrongRec_ok hr; obtain ⟨number, how, bits, bytes⟩ := r; simp only at *; obtain ⟨N, rfl⟩ := Int.eq_ofNat_of_zero_le (show 0 ≤ number by omega); obtain ⟨H, rfl⟩ := Int.eq_ofNat_of_zero_le (show 0 ≤ how by omega); (have hH : H < 8 := by omega); have hg : ∀ t, get (uvarint (8 * N + H) ++ t) = (8 * N + H, (uvarint (8 * N + H)).length, 0) := fun t => get_put _ _ (by omega); (have hd : (8 * N + H) / 8 = N := by omega); (have hm : (8 * N + H) % 8 = H := by omega); unfold oneB tagB; simp only [Int.toNat_natCast]; generalize hp : (if (H : Int) = 0 then uvarint bits else if (H : Int) = 1 then lowB 8 bits else if (H : Int) = 5 then lowB 4 bits else uvarint bytes.length ++ bytes) = pl; rw [List.append_assoc]; unfold oneP; simp only; rw [hg]; simp only; rw [hd, hm, List.drop_left, if_neg (by simp), if_neg (by omega)]
 by_cases h0 : H = 0
 · rw [if_pos h0]; rw [if_pos (by omega)] at hp; subst hp; rw [get_put _ _ h64]; rcases hy with h | h
   · omega
   · simp [h.2, h0]
 · rw [if_neg h0]; rw [if_neg (by omega)] at hp
   by_cases h1 : H = 1
   · rw [if_pos h1]; rw [if_pos (by omega)] at hp; subst hp; rw [numB_put 8 _ _ (by omega)]; rcases hy with h | h
     · omega
     · simp [h.2, lowB_length, h1]
   · rw [if_neg h1]; rw [if_neg (by omega)] at hp
     by_cases h5 : H = 5
     · rw [if_pos h5]; rw [if_pos (by omega)] at hp; subst hp; rw [numB_put 4 _ _ (by have := hb4 (by omega); omega)]; rcases hy with h | h
       · omega
       · simp [h.2, lowB_length, h5]
     · rw [if_neg h5]; rw [if_neg (by omega)] at hp; (have h2 : H = 2 := by omega); subst hp; rcases hy with ⟨_, hb, hl⟩ | ⟨h, _⟩
       · rw [if_pos h2, List.append_assoc, get_put _ _ (by omega)]; simp only; rw [if_neg (by simp), if_neg (by simp only [List.length_append]; omega), List.drop_left, List.take_left]; subst hb; simp only [List.length_append, Prod.mk.injEq, true_and, Rec.mk.injEq, and_true]; refine ⟨by omega, by omega⟩
       · omega
theorem getF_min : ∀ (l : List UInt8) (i n : Nat), (getF i n l).2.2 = 0 → ∃ x, (getF i n l).1 = n + x * 2 ^ (7 * i) ∧ (uvarint x).length + i ≤ (getF i n l).2.1
 | [], i, n, h => by simp [getF] at h
 | c :: r, i, n, h => by
   rw [getF] at h ⊢
   by_cases h9 : i = 9 ∧ 1 < c.toNat
   · rw [if_pos h9] at h; simp at h
   · rw [if_neg h9] at h ⊢
     by_cases h1 : c.toNat < 128
     · rw [if_pos h1] at h ⊢; refine ⟨c.toNat, rfl, ?_⟩; rw [uvarint_small h1]; simp; omega
     · rw [if_neg h1] at h ⊢; obtain ⟨x, e, hl⟩ := getF_min r (i + 1) _ h; refine ⟨c.toNat % 128 + x * 128, ?_, ?_⟩
       · (have h2 : 2 ^ (7 * (i + 1)) = 128 * 2 ^ (7 * i) := by rw [show 7 * (i + 1) = 7 + 7 * i by omega, Nat.pow_add]); rw [e, Nat.add_mul, h2, Nat.mul_assoc]; omega
       · by_cases hx : c.toNat % 128 + x * 128 < 128
         · rw [uvarint_small hx]; have := uvarint_pos x; simp; omega
         · rw [uvarint_big (by omega), List.length_cons, show (c.toNat % 128 + x * 128) / 128 = x by omega]; omega
theorem get_min {l : List UInt8} (h : (get l).2.2 = 0) : (uvarint (get l).1).length ≤ (get l).2.1 := by
 obtain ⟨x, e, hl⟩ := getF_min l 0 0 h; simp only [Nat.mul_zero, Nat.pow_zero, Nat.mul_one, Nat.zero_add, Nat.add_zero] at e hl; rw [e]; exact hl
theorem oneP_right {l : List UInt8} (h : (oneP l).1 = 0) (hl : l.length ≤ 4000) : wrongRec (oneP l).2.1 = 0 ∧ (oneB (oneP l).2.1).length ≤ (oneP l).2.2 := by
 revert h; have hg := @get_ok l; have hgm := @get_min l; unfold oneP; simp only; generalize get l = g at *; obtain ⟨tag, at_, e0⟩ := g; simp only at *
 by_cases he : e0 = 0
 · subst he; obtain ⟨k1, k2, k3, k4⟩ := hg rfl; have hmin := hgm rfl; rw [if_neg (by simp)]
   by_cases hn : tag / 8 < 1 ∨ 536870912 ≤ tag / 8
   · rw [if_pos hn]; intro h; simp at h
   · rw [if_neg hn]; have ht : ∀ H, tag % 8 = H → tagB (tag / 8) H = uvarint tag := fun H hH => by unfold tagB; congr 1; omega
     by_cases h0 : tag % 8 = 0
     · rw [if_pos h0]; have h2 := @get_min (l.drop at_); generalize get (l.drop at_) = h at *
       by_cases h1 : h.2.2 = 0
       · rw [if_neg (by simpa using h1)]; intro _; have h2 := h2 h1; refine ⟨by simp [wrongRec]; omega, ?_⟩; simp only [oneB, Int.toNat_natCast, if_pos, List.length_append]; rw [show Int.toNat 0 = 0 from rfl, ht 0 h0]; omega
       · rw [if_pos h1]; intro h; exact absurd h h1
     · rw [if_neg h0]
       by_cases h8 : tag % 8 = 1
       · rw [if_pos h8]; generalize numB 8 (l.drop at_) = h at *
         by_cases h1 : h.2 = 0
         · rw [if_neg (by simpa using h1)]; intro _; refine ⟨by simp [wrongRec]; omega, ?_⟩; simp only [oneB, Int.toNat_natCast, List.length_append]; rw [show Int.toNat 1 = 1 from rfl, ht 1 h8, if_neg (by decide), if_pos trivial, lowB_length]; omega
         · rw [if_pos h1]; intro h; exact absurd h h1
       · rw [if_neg h8]
         by_cases h5 : tag % 8 = 5
         · rw [if_pos h5]
           have hlt : (numB 4 (l.drop at_)).1 < 4294967296 := by
             unfold numB; split
             · simp
             · have := lowVal_lt ((l.drop at_).take 4); rw [List.length_take] at this; have h2 : 2 ^ (8 * min 4 (l.drop at_).length) ≤ 2 ^ 32 := Nat.pow_le_pow_right (by decide) (by omega); simp only; omega
           generalize numB 4 (l.drop at_) = h at *
           by_cases h1 : h.2 = 0
           · rw [if_neg (by simpa using h1)]; intro _; refine ⟨by simp [wrongRec]; omega, ?_⟩; simp only [oneB, Int.toNat_natCast, List.length_append]; rw [show Int.toNat 5 = 5 from rfl, ht 5 h5, if_neg (by decide), if_neg (by decide), if_pos trivial, lowB_length]; omega
           · rw [if_pos h1]; intro h; exact absurd h h1
         · rw [if_neg h5]
           by_cases h2 : tag % 8 = 2
           · rw [if_pos h2]; have hm2 := @get_min (l.drop at_); generalize get (l.drop at_) = h at *
             by_cases h1 : h.2.2 = 0
             · rw [if_neg (by simpa using h1)]; have hm2 := hm2 h1
               by_cases hx : (l.drop at_).length - h.2.1 < h.1
               · rw [if_pos hx]; intro h; simp at h
               · rw [if_neg hx]; intro _; rw [List.length_drop] at hx
                 have hlen : (((l.drop at_).drop h.2.1).take h.1).length = h.1 := by
                   rw [List.length_take, List.length_drop, List.length_drop]; omega
                 refine ⟨?_, ?_⟩
                 · simp only [wrongRec, hlen]; simp; omega
                 · simp only [oneB, Int.toNat_natCast, List.length_append, hlen]; rw [show Int.toNat 2 = 2 from rfl, ht 2 h2, if_neg (by decide), if_neg (by decide), if_neg (by decide)]; rw [List.length_append, hlen]; omega
             · rw [if_pos h1]; intro h; exact absurd h h1
           · rw [if_neg h2]; intro h; simp at h
 · rw [if_pos he]; intro h; exact absurd h he
theorem oneB_pos (r : Rec) : 0 < (oneB r).length := by
 unfold oneB tagB; rw [List.length_append]; have := uvarint_pos (8 * r.number.toNat + r.how.toNat); omega
theorem parseG_put : ∀ (l : List Rec) (f : Nat), (∀ r ∈ l, wrongRec r = 0 ∧ r.bits < 2 ^ 64) → (l.flatMap oneB).length < f → parseG f (l.flatMap oneB) = (l, 0, 0)
 | [], f, _, _ => by cases f <;> simp [parseG]
 | r :: l, 0, _, h => by omega
 | r :: l, f + 1, h, hf => by
   have hp := oneB_pos r
   have hne : oneB r ++ l.flatMap oneB ≠ [] := fun e => by
     have := congrArg List.length e; simp only [List.length_append, List.length_nil] at this; omega
   rw [List.flatMap_cons, List.length_append] at hf; rw [List.flatMap_cons, parseG, if_neg hne, oneP_put r (h r (by simp)).1 (h r (by simp)).2]; simp only; rw [List.drop_left, parseG_put l f (fun x hx => h x (by simp [hx])) (by omega)]; simp
theorem parseG_right : ∀ (f : Nat) (l : List UInt8), l.length ≤ 4000 → (parseG f l).2.1 = 0 → l.length < f → (∀ r ∈ (parseG f l).1, wrongRec r = 0 ∧ r.bits < 2 ^ 64) ∧ ((parseG f l).1.flatMap oneB).length ≤ l.length
 | 0, _, _, _, h => by omega
 | f + 1, l, hl, h, hf => by
   rw [parseG] at h ⊢
   by_cases hn : l = []
   · rw [if_pos hn]; simp
   · rw [if_neg hn] at h ⊢
     by_cases ho : (oneP l).1 = 0
     · have hk := oneP_ok ho; have hr := oneP_right ho hl; rw [if_neg (by simpa using ho)] at h ⊢; simp only at h ⊢
       by_cases hp : (parseG f (l.drop (oneP l).2.2)).2.1 = 0
       · rw [if_neg (by simpa using hp)]; obtain ⟨h1, h2⟩ := parseG_right f _ (by rw [List.length_drop]; omega) hp (by rw [List.length_drop]; omega); refine ⟨fun r hr' => ?_, ?_⟩
         · rcases List.mem_cons.1 hr' with rfl | hx
           · exact ⟨hr.1, hk.2.2.1⟩
           · exact h1 r hx
         · rw [List.flatMap_cons, List.length_append]; rw [List.length_drop] at h2; omega
       · rw [if_pos hp] at h; exact absurd h hp
     · rw [if_pos ho] at h; exact absurd h ho
end Go.Proofs.YtbceapeoknngnaaGreatDoor
set_option linter.unusedVariables false
namespace Go.Proofs.YtbceapeoknngnaaGreatDoor
open Go.RowKit
set_option maxRecDepth 100000
open Lib (hid)
set_option maxHeartbeats 800000 in
theorem how_c (k : Int) (w : World) :
   Calls Tryz.prog 21 #[.int .i64 k] w fun e w' => e = .returned (.int .i64 (howC k)) ∧ w' = w := by
 obtain ⟨h, hh⟩ : ∃ h, howC k = h := ⟨_, rfl⟩; rw [hh]; unfold howC at hh
 by_cases h6 : k = 6
 · subst h6; subst hh
   go_enter Tryz.func21, Tryz.ntmps21
   go_wp2_with fail
   go_ret
   exact ⟨rfl, rfl⟩
 by_cases h7 : k = 7
 · subst h7; subst hh
   go_enter Tryz.func21, Tryz.ntmps21
   go_wp2_with fail
   go_ret
   exact ⟨rfl, rfl⟩
 by_cases h8 : k = 8
 · subst h8; subst hh
   go_enter Tryz.func21, Tryz.ntmps21
   go_wp2_with fail
   go_ret
   exact ⟨rfl, rfl⟩
 by_cases h9 : k = 9
 · subst h9; subst hh
   go_enter Tryz.func21, Tryz.ntmps21
   go_wp2_with fail
   go_ret
   exact ⟨rfl, rfl⟩
 by_cases h10 : k = 10
 · subst h10; subst hh
   go_enter Tryz.func21, Tryz.ntmps21
   go_wp2_with fail
   go_ret
   exact ⟨rfl, rfl⟩
 rw [if_neg h6, if_neg h7, if_neg (by simp [h8, h9, h10])] at hh; subst hh; (have b6 : (k == 6) = false := by simpa using h6); (have b7 : (k == 7) = false := by simpa using h7); (have b8 : (k == 8) = false := by simpa using h8); (have b9 : (k == 9) = false := by simpa using h9); (have b10 : (k == 10) = false := by simpa using h10); clear h6 h7 h8 h9 h10
 go_enter Tryz.func21, Tryz.ntmps21
 go_wp2_with fail
 go_ret
 exact ⟨rfl, rfl⟩
theorem sgn_wrap (n : Nat) (hn : n < 18446744073709551616) : wrap64 (n : Int) = sgn n := by
 unfold sgn wrap64; split <;> omega
set_option maxHeartbeats 800000 in
theorem bits_c (k : Int) (n : Nat) (w : World) (hn : n < 18446744073709551616) :
   Calls Tryz.prog 120 #[.int .i64 k, .int .u64 n] w fun e w' => e = .returned (.int .u64 (toldC k n : Int)) ∧ w' = w := by
 by_cases h2 : k = 2
 · subst h2; (have h0 : -9223372036854775808 ≤ sgn n ∧ sgn n ≤ 9223372036854775807 := by unfold sgn; split <;> omega); have Hf := hid (fold_any (sgn n) w h0.1 h0.2); have Hs := hid (sgn_wrap n hn); clear h0
   go_enter Tryz.func120, Tryz.ntmps120
   go_wp2_with (go_at_call 31; go_must (rw [Hs.out]; refine Hf.out.mono ?_; rintro e w1 ⟨rfl, rfl⟩))
   go_ret
   have e : toldC 2 n = Lib.zigzag (sgn n) := if_pos rfl; exact ⟨by rw [e]; rfl, rfl⟩
 · (have b2 : (k == 2) = false := by simpa using h2); (have ht : toldC k n = n := by unfold toldC; rw [if_neg h2]); rw [ht]
   go_enter Tryz.func120, Tryz.ntmps120
   go_wp2_with fail
   go_ret
   exact ⟨rfl, rfl⟩
theorem told_64 {k : Int} {n : Nat} (hn : n < 18446744073709551616) : toldC k n < 18446744073709551616 := by
 unfold toldC; split
 · (have h0 : -9223372036854775808 ≤ sgn n ∧ sgn n ≤ 9223372036854775807 := by unfold sgn; split <;> omega); unfold Lib.zigzag; split <;> omega
 · exact hn
theorem told_right {k : Int} {n : Nat} (num : Int) (h1 : 1 ≤ num) (h2 : num < 536870912) (hk : howC k ≠ 2) (h7 : k = 7 → n < 4294967296) : wrongRec ⟨num, howC k, toldC k n, []⟩ = 0 := by
 have hh : howC k = 0 ∨ howC k = 1 ∨ howC k = 5 := by
   unfold howC at hk ⊢
   by_cases h6 : k = 6
   · rw [if_pos h6]; omega
   by_cases g : k = 7
   · rw [if_neg h6, if_pos g]; omega
   rw [if_neg h6, if_neg g] at hk ⊢; split at hk
   · exact absurd rfl hk
   · left; rw [if_neg (by assumption)]
 have h5 : howC k = 5 → toldC k n < 4294967296 := by
   intro h
   have e : k = 7 := by
     unfold howC at h
     by_cases h6 : k = 6
     · rw [if_pos h6] at h; cases h
     by_cases g : k = 7
     · exact g
     rw [if_neg h6, if_neg g] at h; split at h <;> cases h
   subst e; have := h7 rfl; unfold toldC; rw [if_neg (by decide)]; exact this
 generalize howC k = hw at *; generalize toldC k n = b at *; unfold wrongRec; simp only; rw [if_pos (by omega), if_neg (by omega), if_neg (by intro h; rcases h with h | h | ⟨h, g⟩ <;> first | omega | (have := h5 h; omega)), if_neg (by simp; omega)]
theorem rdB_tail1 {w2 : World} {a2 : Option Addr} {c2 : Nat} {ob Y : List UInt8} (h0 : 0 < ob.length) (hY : ob.drop 1 = Y) (h : RdB All w2 (.slice a2 ob.length c2) ob) : Y.length = ob.length - 1 ∧ ((if c2 = 1 then a2 else a2.map (·.add 1)) = none → ob.length - 1 = 0 ∧ c2 - 1 = 0) ∧ (∀ ad, (if c2 = 1 then a2 else a2.map (·.add 1)) = some ad → ∀ j u, (B8 Y)[j]? = some u → w2.cell? (ad.add j) = some u) ∧ (B8 Y).length = (ob.length - 1) * 1 := by
 have h1 := RdB.drop h 1 (by omega) (ao' := if c2 = 1 then a2 else a2.map (·.add 1)) (fun g => by rw [if_neg g]) rfl rfl; rw [hY] at h1; obtain ⟨g1, g2, g3⟩ := RdB.news h1; exact ⟨g1.symm, g2, g3, by simp [B8, g1]⟩
set_option maxHeartbeats 1600000 in
theorem pack_c (kind : Int) (v : Value) (l : List Nat) (w : World) (hk2 : howC kind ≠ 2) (hn : ∀ n ∈ l, n < 18446744073709551616 ∧ (kind = 7 → n < 4294967296)) (hll : (packC kind l).length ≤ 1099511627776) (hv : RdS DU64 1 All w v l) :
   Calls Tryz.prog 119 #[.int .i64 kind, v] w fun e w' => ∃ v', e = .returned v' ∧ w'.ownsRow w.heap.size 5 1 v' (packC kind l).length (B8 (packC kind l)) ∧ Up w w' := by
 obtain ⟨ao, cap, rfl, hc1, hc2⟩ := hv.val; have Hv := hid hv; clear hv; have Hn := hid hn; clear hn; have Hk2 := hid hk2; clear hk2; have Hll := hid hll; clear hll
 go_enter Tryz.func119, Tryz.ntmps119
 go_wp2_with fail
 go_loopw [5, 10] (fun o i wr => ∃ k : Nat, k ≤ l.length ∧ i = .int .i64 k ∧ wr.ownsRow w.heap.size 5 1 o (packC kind (l.take k)).length (B8 (packC kind (l.take k))) ∧ Up w wr)
   (fun _ i _ => l.length - (intOf i).toNat)
 case atStart => exact ⟨0, by omega, rfl, World.ownsRow_nil _ _ _ _, Up.refl w⟩
 case round =>
   obtain ⟨k, hk, rfl, how, hu⟩ := hrel; have How := hid how; clear how
   by_cases hlt : k < l.length
   · obtain ⟨b, o, cs, rfl, _, _, hcs, hd⟩ := (Hv.out.up stable_u64 hu).at hlt; obtain ⟨hd, _⟩ := hd; subst hd; have n0 := hcs 0 _ rfl; simp only [Nat.add_zero, Nat.mul_one] at n0; have hmem := Hn.out _ (List.getElem_mem hlt)
     have hpk : packC kind (l.take (k + 1)) = packC kind (l.take k) ++ (oneB ⟨1, howC kind, toldC kind l[k], []⟩).drop 1 := by
       rw [List.take_succ_eq_append_getElem hlt, packC, packC, List.flatMap_append]; simp
     have hle : (packC kind (l.take (k + 1))).length ≤ 1099511627776 := by
       refine Nat.le_trans ?_ Hll.out; (have : packC kind l = packC kind (l.take (k + 1)) ++ packC kind (l.drop (k + 1)) := by rw [packC, packC, packC, ← List.flatMap_append, List.take_append_drop]); rw [this, List.length_append]; omega
     have Hpk := hid hpk; clear hpk; have Hle := hid hle; clear hle; have Hu := hid hu; clear hu hcs; generalize l[k] = n at *; have hbt := hid (bits_c kind n wr hmem.1); have hht := hid (how_c kind wr); have Hr := hid (told_right (n := n) 1 (by omega) (by omega) Hk2.out hmem.2); have Hb := hid (told_64 (k := kind) hmem.1); clear hmem; generalize howC kind = hw at *; generalize toldC kind n = bt at *; have hop := oneB_pos ⟨1, hw, bt, []⟩; obtain ⟨ob, hob⟩ : ∃ ob, oneB ⟨1, hw, bt, []⟩ = ob := ⟨_, rfl⟩; rw [hob] at hop; obtain ⟨Y, hY⟩ : ∃ Y, ob.drop 1 = Y := ⟨_, rfl⟩; (have hM : ob.length - 1 = Y.length := by rw [← hY, List.length_drop]); have HM := hid hM; clear hM; have HY := hid hY; clear hY; have Hob := hid hob; clear hob; have HL := hid (show (packC kind (l.take k)).length + (ob.length - 1) ≤ 1099511627776 by have h := Hle.out; rw [Hpk.out, Hob.out, HY.out, List.length_append] at h; rw [HM.out]; exact h)
     go_wp2_with (first
       | (go_at_call 21; go_must (refine hht.out.mono ?_; rintro e w1 ⟨rfl, rfl⟩))
       | (go_at_call 120; go_must (refine hbt.out.mono ?_; rintro e w1 ⟨rfl, rfl⟩))
       | (go_at_call 59; go_must (refine (add_own _ (.slice none 0 0) [] ⟨1, hw, bt, []⟩ (.slice none 0 0) _ (rdB_nil _ _) Hr.out Hb.out (by simp) (World.ownsRow_nil _ _ _ _) (Nat.le_refl _)).mono ?_; rintro e w2 ⟨v2, rfl, how2, hev2⟩; rw [List.nil_append, Hob.out] at how2; have hr2 := rdB_of_owns (S := All) how2 (fun _ _ => trivial); obtain ⟨a2, c2, rfl, hx1, hx2⟩ := hr2.val; have Hr2 := hid hr2; have How2 := hid how2; have HN := hid (rdB_tail1 hop HY.out hr2); have hz2 := hev2.grown.size; have hz1 := Hu.out.size; have HZ := hid (Nat.le_trans hz1 hz2); have Hev2 := hid hev2; clear hr2 how2 hev2 hz1 hz2))
       | (at_builtin; go_must (refine wpList_app eU8 _ (by rfl) _ _ (by rfl) w.heap.size _ _ _ (by rfl) (How.out.kept Hev2.out.grown (Classical.em _)) _ _ _ (by rfl) (B8 Y) HN.out.2.2.2 HN.out.2.1 HN.out.2.2.1 (B8_one _) (by have := HL.out; omega) (by have := HL.out; unfold maxLen; omega) HZ.out ?_; intro v3 w3 how3 hev3)))
     go_roundw
     case rel =>
       refine ⟨k + 1, by omega, by go_num, ?_, (Hu.out.evo Hev2.out (fun j hj => nomatch hj)).evo hev3 (fun j hj => (How.out.lt j hj).1)⟩; rw [Hpk.out, Hob.out, HY.out, List.length_append, B8_append, ← HM.out]; exact how3
     case measure => simp [intOf]; omega
   · go_wp2_with fail
     go_ret
     have : l.take k = l := List.take_of_length_le (by omega); have h := How.out; rw [this] at h; exact ⟨_, rfl, h, hu⟩
set_option maxHeartbeats 400000 in
theorem open_any (n : Nat) (w : World) (h1 : n < 2 ^ 64) :
   Calls Tryz.prog 196 #[.int .u64 n] w fun e w' => e = .returned (.int .i64 (unzig n)) ∧ w' = w := by
 have H1 := hid h1; clear h1
 go_enter Tryz.func196, Tryz.ntmps196
 go_wp2_with fail
 go_ret
 exact ⟨by rw [← open_bits n H1.out]; rfl, rfl⟩
theorem ret_u64 {a b : Int} (h : a = b) : Ending.returned (.int .u64 a) = Ending.returned (.int .u64 b) := by rw [h]
set_option maxHeartbeats 800000 in
theorem back_c (k : Int) (n : Nat) (w : World) (hn : n < 18446744073709551616) :
   Calls Tryz.prog 182 #[.int .i64 k, .int .u64 n] w fun e w' => e = .returned (.int .u64 (backC k n : Int)) ∧ w' = w := by
 by_cases h2 : k = 2
 · subst h2; have e : backC 2 n = usg (unzig n) := if_pos rfl; rw [e]; have Ho := hid (open_any n w hn)
   go_enter Tryz.func182, Tryz.ntmps182
   go_wp2_with (go_at_call 196; go_must (refine Ho.out.mono ?_; rintro e w1 ⟨rfl, rfl⟩))
   all_goals
     go_ret
     refine ⟨ret_u64 ?_, rfl⟩; rw [IntKind.wrap_u64]; unfold usg unzig; split <;> split <;> omega
 by_cases h4 : k = 4
 · subst h4; (have e : backC 4 n = min n 1 := by unfold backC; rw [if_neg (by decide), if_pos rfl]); rw [e]
   go_enter Tryz.func182, Tryz.ntmps182
   go_wp2_with fail
   all_goals
     go_ret
     refine ⟨ret_u64 ?_, rfl⟩; omega
 by_cases h5 : k = 5
 · subst h5; (have e : backC 5 n = (if n % 4294967296 < 2147483648 then n % 4294967296 else n % 4294967296 + 18446744069414584320) := by unfold backC; rw [if_neg (by decide), if_neg (by decide), if_pos rfl]); rw [e]
   go_enter Tryz.func182, Tryz.ntmps182
   go_wp2_with fail
   all_goals
     go_ret
     refine ⟨ret_u64 ?_, rfl⟩; rw [IntKind.wrap_u64]; unfold wrap64 wrap32; omega
 (have b2 : (k == 2) = false := by simpa using h2); (have b4 : (k == 4) = false := by simpa using h4); (have b5 : (k == 5) = false := by simpa using h5); (have e : backC k n = n := by unfold backC; rw [if_neg h2, if_neg h4, if_neg h5]); rw [e]; clear h2 h4 h5
 go_enter Tryz.func182, Tryz.ntmps182
 go_wp2_with fail
 go_ret
 exact ⟨rfl, rfl⟩
set_option maxHeartbeats 400000 in
theorem get_any (v : Value) (l : List UInt8) (w : World) (hv : RdB All w v l) :
   Calls Tryz.prog 105 #[v] w fun e w' => e = .returned (.tuple #[.int .u64 ((get l).1 : Int), .int .i64 ((get l).2.1 : Int), .int .i64 (get l).2.2]) ∧ w' = w := by
 obtain ⟨ao, cap, rfl, hc1, hc2⟩ := hv.val
 go_enter Tryz.func105, Tryz.ntmps105
 go_wp2_with fail
 go_loop [5, 10] (fun n i => ∃ k a : Nat, k ≤ l.length ∧ k ≤ 9 ∧ i = .int .i64 k ∧ n = .int .u64 a ∧ a < 2 ^ (7 * k) ∧ getF k a (l.drop k) = get l) (fun _ i => l.length - (intOf i).toNat)
 case atStart => exact ⟨0, 0, by omega, by omega, rfl, rfl, by simp, rfl⟩
 case round =>
   obtain ⟨k, a, hk, hk9, rfl, rfl, ha, hg⟩ := hrel
   by_cases hlt : k < l.length
   · obtain ⟨b, o, rfl, hcell⟩ := hv.cell hlt; have hd : l.drop k = l[k] :: l.drop (k + 1) := List.drop_eq_getElem_cons hlt; have hc256 : l[k].toNat < 256 := UInt8.toNat_lt _; generalize l[k] = c at *; rw [hd, getF] at hg
     by_cases h9 : k = 9 ∧ 1 < c.toNat
     · obtain ⟨rfl, h1⟩ := h9; (have Hg : Hid ((0, 0, 3) = get l) := by rw [← hg, if_pos ⟨rfl, h1⟩]; exact hid rfl); clear hg hd ha; go_wp2_with fail
       go_ret3
       rw [← Hg.out]; exact ⟨rfl, rfl⟩
     · have hb := get_bits a k c.toNat ha hc256 hk9 (by omega); have hs := get_step a k c.toNat ha; rw [if_neg h9] at hg; have Hb := hid hb; clear hb; have Hs := hid hs; clear hs; have Hg := hid hg; clear hg; (have h91 : k = 9 → c.toNat ≤ 1 := by omega); clear ha h9 hd
       by_cases h9 : k = 9
       · have h1 := h91 h9; clear h91; subst h9; go_wp2_with fail
         go_ret3
         have hg := Hg.out; rw [if_pos (by omega)] at hg; have hb := Hb.out; rw [← hg]; simp only [Nat.reduceMul, Int.reducePow] at hb; rw [hb]; refine ⟨?_, rfl⟩; rw [Nat.mod_eq_of_lt (by omega)]; rfl
       · clear h91; have h9b : ((k : Int) == 9) = false := by rw [beq_eq_false_iff_ne]; omega
         by_cases h128 : c.toNat < 128
         · go_wp2_with fail
           go_ret3
           have hg := Hg.out; rw [if_pos h128] at hg; rw [← hg, Hb.out]; refine ⟨?_, rfl⟩; rw [Nat.mod_eq_of_lt h128]; rfl
         · go_wp2_with fail
           go_round
           case rel =>
             have hg := Hg.out; rw [if_neg h128] at hg; exact ⟨k + 1, _, by omega, by omega, by go_num, by rw [Hb.out], Hs.out, hg⟩
           case measure => simp [intOf]; omega
   · rw [List.drop_eq_nil_of_le (by omega), getF] at hg; have Hg := hid hg; clear hg ha; go_wp2_with fail
     go_ret3
     rw [← Hg.out]; exact ⟨rfl, rfl⟩
theorem get_eq (v : Value) (l : List UInt8) (w : World) (x m : Nat) (e0 : Int) (h : get l = (x, m, e0)) (hv : RdB All w v l) :
   Calls Tryz.prog 105 #[v] w fun e w' => e = .returned (.tuple #[.int .u64 (x : Int), .int .i64 (m : Int), .int .i64 e0]) ∧ w' = w := by
 have := get_any v l w hv; rw [h] at this; exact this
end Go.Proofs.YtbceapeoknngnaaGreatDoor
