/-
  Package wire: Tag, fixed, Add, onto a row of the call's own.
  Package wire in plain Lean: a number comes back.
  Package wire in plain Lean: what is written is read.
-/
import Derived.Test.YtbceapeoknngnaaGreatDoorProg
import Derived.Test.YtbceapeoknngnaaGreatDoorDp02
import Derived.Test.YtbceapeoknngnaaGreatDoorDp01
import Derived.Test.YtbceapeoknngnaaGreatDoorDp13
import Derived.Outline
import Derived.Deep.RegionHeld3
import Derived.Test.YtbceapeoknngnaaGreatDoorDp03
namespace Go.Proofs.YtbceapeoknngnaaGreatDoor
open Go.RowKit
theorem put_eq (base : Nat) (v : Value) (l : List UInt8) (X : Int) (x : Nat) (w : World) (hX : X = (x : Int)) (hx : x < 2 ^ 64) (hl : l.length ≤ 1099511627776)
    (hown : w.ownsRow base 5 1 v l.length (B8 l)) (hb : base ≤ w.heap.size) :
    Calls Tryz.prog 109 #[v, .int .u64 X] w fun e w' => ∃ v', e = .returned v' ∧ w'.ownsRow base 5 1 v' (l ++ Lib.uvarint x).length (B8 (l ++ Lib.uvarint x)) ∧ Evo w w' v v' := by
  subst hX
  exact put_own base v l x w hx hl hown hb
set_option maxRecDepth 100000 in
set_option maxHeartbeats 400000 in
theorem tag_own (base : Nat) (v : Value) (l : List UInt8) (n h : Int) (w : World) (n0 : 0 ≤ n) (n1 : n < 536870912) (h0 : 0 ≤ h) (h1 : h < 8) (hl : l.length ≤ 1099511627776)
    (hown : w.ownsRow base 5 1 v l.length (B8 l)) (hb : base ≤ w.heap.size) :
    Calls Tryz.prog 108 #[v, .int .i64 n, .int .i64 h] w fun e w' => ∃ v', e = .returned v' ∧ w'.ownsRow base 5 1 v' (l ++ tagB n.toNat h.toNat).length (B8 (l ++ tagB n.toNat h.toNat)) ∧ Evo w w' v v' := by
  have hb2 := tag_bits n h n0 n1 h0 h1
  have Hb2 := Lib.hid hb2; clear hb2
  go_enter Tryz.func108, Tryz.ntmps108
  go_wp2_with fail
  refine (put_eq base _ l _ (8 * n.toNat + h.toNat) _ Hb2.out (by omega) hl hown hb).mono ?_
  rintro e w1 ⟨v1, rfl, how1, hev1⟩
  go_wp2_with fail
  go_ret
  exact ⟨_, rfl, how1, hev1⟩
set_option maxRecDepth 100000 in
set_option maxHeartbeats 400000 in
theorem fixed_own (base : Nat) (v : Value) (l : List UInt8) (x size : Nat) (w : World) (hx : x < 2 ^ 64) (hs : size ≤ 8) (hl : l.length ≤ 1099511627776)
    (hown : w.ownsRow base 5 1 v l.length (B8 l)) (hb : base ≤ w.heap.size) :
    Calls Tryz.prog 110 #[v, .int .u64 x, .int .i64 size] w fun e w' => ∃ v', e = .returned v' ∧ w'.ownsRow base 5 1 v' (l ++ lowB size x).length (B8 (l ++ lowB size x)) ∧ Evo w w' v v' := by
  have Hx := Lib.hid hx; clear hx
  go_enter Tryz.func110, Tryz.ntmps110
  go_wp2_with fail
  go_loopw [0, 1, 8] (fun s y i wr => ∃ (d : List UInt8) (z k : Nat), z < 2 ^ 64 ∧ k ≤ size ∧ y = .int .u64 z ∧ i = .int .i64 k ∧ d ++ lowB (size - k) z = lowB size x ∧ wr.ownsRow base 5 1 s (l ++ d).length (B8 (l ++ d)) ∧ Evo w wr v s)
    (fun _ _ i _ => size - (intOf i).toNat)
  case atStart => exact ⟨[], x, 0, Hx.out, by omega, rfl, rfl, rfl, by simpa using hown, Evo.refl _ _⟩
  case round =>
    obtain ⟨d, z, k, hz, hk, rfl, rfl, hd, how, hev⟩ := hrel
    have hdl : (l ++ d).length ≤ 1099511627776 + 8 := by
      have h1 := congrArg List.length hd
      simp only [List.length_append, lowB_length] at h1 ⊢
      omega
    have hsz : base ≤ wr.heap.size := by have := hev.grown.size; omega
    have Hz := Lib.hid hz; clear hz
    have Hd := Lib.hid hd; clear hd
    have Hev := Lib.hid hev; clear hev
    by_cases hlt : k < size
    · go_wp2_with (at_builtin; go_loud (refine wpList_app_one eU8 wr rfl _ _ rfl base _ _ _ rfl how rfl rfl (by intro u hu; simp at hu; subst hu; rfl) (by omega) (by unfold maxLen; omega) (by omega) ?_); intro v1 w1 how1 (hev1 : Evo wr w1 u0 v1))
      go_roundw
      case rel =>
        refine ⟨d ++ [z.toUInt8], z / 256, k + 1, by have := Hz.out; omega, by omega, rfl, by go_num, ?_, ?_, Hev.out.trans hev1⟩
        · rw [← Hd.out, show size - k = (size - (k + 1)) + 1 by omega, lowB]; simp
        · have e : Value.int .u8 ((z : Int) % 256) = .int .u8 ((z.toUInt8.toNat : Nat) : Int) := by
            rfl
          rw [e] at how1
          simpa [B8, ← List.append_assoc, Nat.add_assoc] using how1
      case measure => simp [intOf]; omega
    · go_wp2_with fail
      go_ret
      have hd := Hd.out
      rw [show size - k = 0 by omega, lowB, List.append_nil] at hd
      rw [← hd]
      exact ⟨_, rfl, how, Hev.out⟩
set_option maxRecDepth 100000 in
set_option maxHeartbeats 400000 in
theorem add_own (base : Nat) (v : Value) (l : List UInt8) (r : Rec) (vb : Value) (w : World) (hv : RdB (Av v) w vb r.bytes) (hr : wrongRec r = 0) (hb64 : r.bits < 2 ^ 64) (hl : l.length ≤ 1099511627776 - 4100)
    (hown : w.ownsRow base 5 1 v l.length (B8 l)) (hb : base ≤ w.heap.size) :
    Calls Tryz.prog 59 #[v, .agg #[.int .i64 r.number, .int .i64 r.how, .int .u64 r.bits, vb]] w fun e w' => ∃ v', e = .returned v' ∧ w'.ownsRow base 5 1 v' (l ++ oneB r).length (B8 (l ++ oneB r)) ∧ Evo w w' v v' := by
  obtain ⟨n1, n2, hh, hb4, hy⟩ := wrongRec_ok hr
  obtain ⟨ao, cap, rfl, hc1, hc2⟩ := hv.val
  obtain ⟨number, how, bits, bytes⟩ := r
  simp only at *
  have htl := tagB_length number.toNat how.toNat (by omega) (by omega)
  have Hb64 := Lib.hid hb64; clear hb64
  have Hr := Lib.hid hr; clear hr
  have Hv := Lib.hid hv; clear hv
  have Hown := Lib.hid hown; clear hown
  go_enter Tryz.func59, Tryz.ntmps59
  go_wp2_with fail
  refine (tag_own base _ l number how _ (by omega) (by omega) (by omega) (by omega) (by omega) (Hown.out.alloc _) (by simp; omega)).mono ?_
  rintro e w1 ⟨v1, rfl, how1, hev1⟩
  have hblk := Evo.box hev1 (fun k hk => (Hown.out.lt k hk).2)
  have c1 : w1.cell? ⟨w.heap.size, 1, none⟩ = some (.int .i64 how) := cell_of_row w1 _ 1 _ _ _ hblk
  have c2 : w1.cell? ⟨w.heap.size, 2, none⟩ = some (.int .u64 (bits : Int)) := cell_of_row w1 _ 2 _ _ _ hblk
  have c3 : w1.cell? ⟨w.heap.size, 3, none⟩ = some (.slice ao bytes.length cap) := cell_of_row w1 _ 3 _ _ _ hblk
  have hs1 : w.heap.size < w1.heap.size := by have := hev1.grown.size; simp at this; omega
  have hlt : (l ++ tagB number.toNat how.toNat).length ≤ 1099511627776 - 4095 := by simp only [List.length_append]; omega
  have Hblk := Lib.hid hblk; clear hblk
  have hev := Evo.of_alloc hev1
  have Hev := Lib.hid hev; clear hev
  have How1 := Lib.hid how1; clear how1
  have Hev1 := Lib.hid hev1; clear hev1
  have Hlt := Lib.hid hlt; clear hlt
  have Hhy := Lib.hid hy; clear hy
  have Hb4 := Lib.hid hb4; clear hb4
  rcases hh with rfl | rfl | rfl | rfl
  · go_wp2_with fail
    refine (put_own base _ _ bits _ Hb64.out (by have := Hlt.out; omega) How1.out (by omega)).mono ?_
    rintro e w2 ⟨v2, rfl, how2, hev2⟩
    go_wp2_with fail
    go_ret
    rw [List.append_assoc] at how2
    exact ⟨_, rfl, how2, Hev.out.trans hev2⟩
  · go_wp2_with fail
    refine (fixed_own base _ _ bits 8 _ Hb64.out (by omega) (by have := Hlt.out; omega) How1.out (by omega)).mono ?_
    rintro e w2 ⟨v2, rfl, how2, hev2⟩
    go_wp2_with fail
    go_ret
    rw [List.append_assoc] at how2
    exact ⟨_, rfl, how2, Hev.out.trans hev2⟩
  · go_wp2_with fail
    refine (fixed_own base _ _ bits 4 _ Hb64.out (by omega) (by have := Hlt.out; omega) How1.out (by omega)).mono ?_
    rintro e w2 ⟨v2, rfl, how2, hev2⟩
    go_wp2_with fail
    go_ret
    rw [List.append_assoc] at how2
    exact ⟨_, rfl, how2, Hev.out.trans hev2⟩
  · have Hv1 := Lib.hid (Hv.out.keep stable_u8 (Keep.evo Hev.out))
    have hne : v1.ownBlock ≠ some w.heap.size := fun e => by
      rcases How1.out.2 with ⟨rfl, _⟩ | ⟨g, cap', cur, rfl, _, hg, _⟩
      · cases e
      · simp only [Value.ownBlock, Option.some.injEq] at e
        subst e
        rw [Hblk.out] at hg
        simp at hg
    have Hne := Lib.hid hne; clear hne
    have hby : bytes.length ≤ 4000 := by rcases Hhy.out with h | h <;> omega
    have hsum : (l ++ tagB number.toNat (Int.toNat 2) ++ Lib.uvarint bytes.length).length + bytes.length ≤ 1099511627776 + 100 := by
      have h1 := Hlt.out
      have h2 := Lib.uvarint_length64 (x := bytes.length) (by omega)
      rw [List.length_append]
      omega
    have Hsum := Lib.hid hsum; clear hsum
    go_wp2_with fail
    go_region_held3 (fun w' => w'.cell? ⟨w.heap.size, 3, none⟩ = some (.slice ao bytes.length cap)) (first | go_keep | exact cell_of_row _ _ 3 _ _ _ (hev2.undrew.blk Hblk.out Hne.out) | exact cell_of_row _ _ 3 _ _ _ ((hev2.undrew.trans hev3).blk Hblk.out Hne.out))
      (first | (go_at_call 109; refine (put_eq base _ _ _ bytes.length _ (by rw [IntKind.wrap_u64]; omega) (by omega) (by have := Hlt.out; omega) How1.out.drew (by simp; omega)).mono ?_; rintro e w2 ⟨v2, rfl, how2, hev2⟩; have Hrd2 := Lib.hid (RdB.news (Hv1.out.keep stable_u8 (Keep.evo hev2.undrew))); have hs2 : base ≤ w2.heap.size := by have h9 := hev2.undrew.grown.size; omega) | (refine step_app eU8 _ (by rfl) _ _ (by rfl) base v2 _ _ (by rfl) how2 ao bytes.length cap (by rfl) (B8 bytes) (by simp [B8]) (Hrd2.out.2.1) (Hrd2.out.2.2) (B8_one _) (by have := Hsum.out; omega) (by have := Hsum.out; unfold maxLen; omega) (by omega) ?_; intro v3 w3 how3 hev3))
    go_wp2_with fail
    go_ret
    refine ⟨_, rfl, ?_, Hev.out.trans (hev2.undrew.trans hev3)⟩
    have e : l ++ oneB ⟨number, 2, bits, bytes⟩ = l ++ tagB number.toNat (Int.toNat 2) ++ Lib.uvarint bytes.length ++ bytes := by simp [oneB]
    rw [e, List.length_append, B8_append]
    exact how3
end Go.Proofs.YtbceapeoknngnaaGreatDoor
namespace Go.Proofs.YtbceapeoknngnaaGreatDoor
open Go.Lib
theorem getF_put (m : List UInt8) : ∀ (f x i n : Nat), x < f → i ≤ 9 → x < 2 ^ (64 - 7 * i) → getF i n (uvarint x ++ m) = (n + x * 2 ^ (7 * i), i + (uvarint x).length, 0)
  | 0, _, _, _, h, _, _ => by omega
  | f + 1, x, i, n, hf, hi, hx => by
    by_cases h : x < 128
    · have hc : x.toUInt8.toNat = x := by simp only [Nat.toUInt8_eq, UInt8.toNat_ofNat']; omega
      rw [uvarint_small h, List.cons_append, getF, hc, if_neg ?_, if_pos h]
      · simp
      · rintro ⟨rfl, h1⟩
        have : x < 2 ^ (64 - 7 * 9) := hx
        omega
    · have hc : (x % 128 + 128).toUInt8.toNat = x % 128 + 128 := by simp only [Nat.toUInt8_eq, UInt8.toNat_ofNat']; omega
      have hi9 : i ≠ 9 := by
        rintro rfl
        have : x < 2 ^ (64 - 7 * 9) := hx
        omega
      rw [uvarint_big (by omega), List.cons_append, getF, hc, if_neg (by omega), if_neg (by omega), getF_put m f (x / 128) (i + 1) _ (by omega) (by omega) ?_]
      · have e : (x % 128 + 128) % 128 = x % 128 := by omega
        rw [e]
        have e2 : 2 ^ (7 * (i + 1)) = 128 * 2 ^ (7 * i) := by rw [show 7 * (i + 1) = 7 + 7 * i by omega, Nat.pow_add]
        rw [e2]
        have e3 : x / 128 * (128 * 2 ^ (7 * i)) = (x / 128 * 128) * 2 ^ (7 * i) := by rw [Nat.mul_assoc]
        rw [e3, Nat.add_assoc, ← Nat.add_mul]
        have e4 : x % 128 + x / 128 * 128 = x := by omega
        rw [e4]
        simp only [List.length_cons, Prod.mk.injEq, and_true, true_and]
        omega
      · have e : 64 - 7 * i = 7 + (64 - 7 * (i + 1)) := by omega
        rw [e, Nat.pow_add] at hx
        exact Nat.div_lt_of_lt_mul (by simpa using hx)
theorem get_put (x : Nat) (m : List UInt8) (hx : x < 2 ^ 64) : get (uvarint x ++ m) = (x, (uvarint x).length, 0) := by
  have := getF_put m (x + 1) x 0 0 (by omega) (by omega) (by simpa using hx)
  simpa using this
theorem unzig_zigzag (s : Int) : unzig (zigzag s) = s := by
  unfold zigzag unzig
  split
  · rename_i h
    rw [if_pos (by omega)]; omega
  · rename_i h
    rw [if_neg (by omega)]; omega
theorem unzig_range {n : Nat} (h : n < 2 ^ 64) : -9223372036854775808 ≤ unzig n ∧ unzig n ≤ 9223372036854775807 := by
  unfold unzig; split <;> omega
end Go.Proofs.YtbceapeoknngnaaGreatDoor
namespace Go.Proofs.YtbceapeoknngnaaGreatDoor
open Go.Lib
theorem lowVal_lowB : ∀ (k n : Nat), lowVal (lowB k n) = n % 256 ^ k
  | 0, n => by simp [lowB, lowVal, Nat.mod_one]
  | k + 1, n => by
    have hc : n.toUInt8.toNat = n % 256 := by simp only [Nat.toUInt8_eq, UInt8.toNat_ofNat']
    rw [lowB, lowVal, lowVal_lowB k, hc, Nat.pow_succ', Nat.mod_mul]
theorem numB_put (k n : Nat) (m : List UInt8) (h : n < 256 ^ k) : numB k (lowB k n ++ m) = (n, 0) := by
  unfold numB
  rw [if_neg (by rw [List.length_append, lowB_length]; omega)]
  have e : (lowB k n ++ m).take k = lowB k n := by
    rw [List.take_append_of_le_length (by rw [lowB_length]; omega), List.take_of_length_le (by rw [lowB_length]; omega)]
  rw [e, lowVal_lowB, Nat.mod_eq_of_lt h]
theorem oneP_put (r : Rec) (hr : wrongRec r = 0) (h64 : r.bits < 2 ^ 64) (m : List UInt8) : oneP (oneB r ++ m) = (0, r, (oneB r).length) := by
  obtain ⟨n1, n2, hh, hb4, hy⟩ := wrongRec_ok hr
  obtain ⟨number, how, bits, bytes⟩ := r
  simp only at *
  obtain ⟨N, rfl⟩ := Int.eq_ofNat_of_zero_le (show 0 ≤ number by omega)
  obtain ⟨H, rfl⟩ := Int.eq_ofNat_of_zero_le (show 0 ≤ how by omega)
  have hH : H < 8 := by omega
  have hg : ∀ t, get (uvarint (8 * N + H) ++ t) = (8 * N + H, (uvarint (8 * N + H)).length, 0) := fun t => get_put _ _ (by omega)
  have hd : (8 * N + H) / 8 = N := by omega
  have hm : (8 * N + H) % 8 = H := by omega
  unfold oneB tagB
  simp only [Int.toNat_natCast]
  generalize hp : (if (H : Int) = 0 then uvarint bits else if (H : Int) = 1 then lowB 8 bits else if (H : Int) = 5 then lowB 4 bits else uvarint bytes.length ++ bytes) = pl
  rw [List.append_assoc]
  unfold oneP
  simp only
  rw [hg]
  simp only
  rw [hd, hm, List.drop_left, if_neg (by simp), if_neg (by omega)]
  by_cases h0 : H = 0
  · rw [if_pos h0]
    rw [if_pos (by omega)] at hp
    subst hp
    rw [get_put _ _ h64]
    rcases hy with h | h
    · omega
    · simp [h.2, h0]
  · rw [if_neg h0]
    rw [if_neg (by omega)] at hp
    by_cases h1 : H = 1
    · rw [if_pos h1]
      rw [if_pos (by omega)] at hp
      subst hp
      rw [numB_put 8 _ _ (by omega)]
      rcases hy with h | h
      · omega
      · simp [h.2, lowB_length, h1]
    · rw [if_neg h1]
      rw [if_neg (by omega)] at hp
      by_cases h5 : H = 5
      · rw [if_pos h5]
        rw [if_pos (by omega)] at hp
        subst hp
        rw [numB_put 4 _ _ (by have := hb4 (by omega); omega)]
        rcases hy with h | h
        · omega
        · simp [h.2, lowB_length, h5]
      · rw [if_neg h5]
        rw [if_neg (by omega)] at hp
        have h2 : H = 2 := by omega
        subst hp
        rcases hy with ⟨_, hb, hl⟩ | ⟨h, _⟩
        · rw [if_pos h2, List.append_assoc, get_put _ _ (by omega)]
          simp only
          rw [if_neg (by simp), if_neg (by simp only [List.length_append]; omega), List.drop_left, List.take_left]
          subst hb
          simp only [List.length_append, Prod.mk.injEq, true_and, Rec.mk.injEq, and_true]
          refine ⟨by omega, by omega⟩
        · omega
theorem getF_min : ∀ (l : List UInt8) (i n : Nat), (getF i n l).2.2 = 0 → ∃ x, (getF i n l).1 = n + x * 2 ^ (7 * i) ∧ (uvarint x).length + i ≤ (getF i n l).2.1
  | [], i, n, h => by simp [getF] at h
  | c :: r, i, n, h => by
    rw [getF] at h ⊢
    by_cases h9 : i = 9 ∧ 1 < c.toNat
    · rw [if_pos h9] at h; simp at h
    · rw [if_neg h9] at h ⊢
      by_cases h1 : c.toNat < 128
      · rw [if_pos h1] at h ⊢
        refine ⟨c.toNat, rfl, ?_⟩
        rw [uvarint_small h1]
        simp; omega
      · rw [if_neg h1] at h ⊢
        obtain ⟨x, e, hl⟩ := getF_min r (i + 1) _ h
        refine ⟨c.toNat % 128 + x * 128, ?_, ?_⟩
        · have h2 : 2 ^ (7 * (i + 1)) = 128 * 2 ^ (7 * i) := by rw [show 7 * (i + 1) = 7 + 7 * i by omega, Nat.pow_add]
          rw [e, Nat.add_mul, h2, Nat.mul_assoc]
          omega
        · by_cases hx : c.toNat % 128 + x * 128 < 128
          · rw [uvarint_small hx]
            have := uvarint_pos x
            simp; omega
          · rw [uvarint_big (by omega), List.length_cons, show (c.toNat % 128 + x * 128) / 128 = x by omega]
            omega
theorem get_min {l : List UInt8} (h : (get l).2.2 = 0) : (uvarint (get l).1).length ≤ (get l).2.1 := by
  obtain ⟨x, e, hl⟩ := getF_min l 0 0 h
  simp only [Nat.mul_zero, Nat.pow_zero, Nat.mul_one, Nat.zero_add, Nat.add_zero] at e hl
  rw [e]; exact hl
theorem oneP_right {l : List UInt8} (h : (oneP l).1 = 0) (hl : l.length ≤ 4000) : wrongRec (oneP l).2.1 = 0 ∧ (oneB (oneP l).2.1).length ≤ (oneP l).2.2 := by
  revert h
  have hg := @get_ok l
  have hgm := @get_min l
  unfold oneP
  simp only
  generalize get l = g at *
  obtain ⟨tag, at_, e0⟩ := g
  simp only at *
  by_cases he : e0 = 0
  · subst he
    obtain ⟨k1, k2, k3, k4⟩ := hg rfl
    have hmin := hgm rfl
    rw [if_neg (by simp)]
    by_cases hn : tag / 8 < 1 ∨ 536870912 ≤ tag / 8
    · rw [if_pos hn]; intro h; simp at h
    · rw [if_neg hn]
      have ht : ∀ H, tag % 8 = H → tagB (tag / 8) H = uvarint tag := fun H hH => by unfold tagB; congr 1; omega
      by_cases h0 : tag % 8 = 0
      · rw [if_pos h0]
        have h2 := @get_min (l.drop at_)
        generalize get (l.drop at_) = h at *
        by_cases h1 : h.2.2 = 0
        · rw [if_neg (by simpa using h1)]
          intro _
          have h2 := h2 h1
          refine ⟨by simp [wrongRec]; omega, ?_⟩
          simp only [oneB, Int.toNat_natCast, if_pos, List.length_append]
          rw [show Int.toNat 0 = 0 from rfl, ht 0 h0]
          omega
        · rw [if_pos h1]; intro h; exact absurd h h1
      · rw [if_neg h0]
        by_cases h8 : tag % 8 = 1
        · rw [if_pos h8]
          generalize numB 8 (l.drop at_) = h at *
          by_cases h1 : h.2 = 0
          · rw [if_neg (by simpa using h1)]
            intro _
            refine ⟨by simp [wrongRec]; omega, ?_⟩
            simp only [oneB, Int.toNat_natCast, List.length_append]
            rw [show Int.toNat 1 = 1 from rfl, ht 1 h8, if_neg (by decide), if_pos trivial, lowB_length]
            omega
          · rw [if_pos h1]; intro h; exact absurd h h1
        · rw [if_neg h8]
          by_cases h5 : tag % 8 = 5
          · rw [if_pos h5]
            have hlt : (numB 4 (l.drop at_)).1 < 4294967296 := by
              unfold numB
              split
              · simp
              · have := lowVal_lt ((l.drop at_).take 4)
                rw [List.length_take] at this
                have h2 : 2 ^ (8 * min 4 (l.drop at_).length) ≤ 2 ^ 32 := Nat.pow_le_pow_right (by decide) (by omega)
                simp only
                omega
            generalize numB 4 (l.drop at_) = h at *
            by_cases h1 : h.2 = 0
            · rw [if_neg (by simpa using h1)]
              intro _
              refine ⟨by simp [wrongRec]; omega, ?_⟩
              simp only [oneB, Int.toNat_natCast, List.length_append]
              rw [show Int.toNat 5 = 5 from rfl, ht 5 h5, if_neg (by decide), if_neg (by decide), if_pos trivial, lowB_length]
              omega
            · rw [if_pos h1]; intro h; exact absurd h h1
          · rw [if_neg h5]
            by_cases h2 : tag % 8 = 2
            · rw [if_pos h2]
              have hm2 := @get_min (l.drop at_)
              generalize get (l.drop at_) = h at *
              by_cases h1 : h.2.2 = 0
              · rw [if_neg (by simpa using h1)]
                have hm2 := hm2 h1
                by_cases hx : (l.drop at_).length - h.2.1 < h.1
                · rw [if_pos hx]; intro h; simp at h
                · rw [if_neg hx]
                  intro _
                  rw [List.length_drop] at hx
                  have hlen : (((l.drop at_).drop h.2.1).take h.1).length = h.1 := by
                    rw [List.length_take, List.length_drop, List.length_drop]; omega
                  refine ⟨?_, ?_⟩
                  · simp only [wrongRec, hlen]
                    simp
                    omega
                  · simp only [oneB, Int.toNat_natCast, List.length_append, hlen]
                    rw [show Int.toNat 2 = 2 from rfl, ht 2 h2, if_neg (by decide), if_neg (by decide), if_neg (by decide)]
                    rw [List.length_append, hlen]
                    omega
              · rw [if_pos h1]; intro h; exact absurd h h1
            · rw [if_neg h2]; intro h; simp at h
  · rw [if_pos he]; intro h; exact absurd h he
theorem oneB_pos (r : Rec) : 0 < (oneB r).length := by
  unfold oneB tagB
  rw [List.length_append]
  have := uvarint_pos (8 * r.number.toNat + r.how.toNat)
  omega
theorem parseG_put : ∀ (l : List Rec) (f : Nat), (∀ r ∈ l, wrongRec r = 0 ∧ r.bits < 2 ^ 64) → (l.flatMap oneB).length < f → parseG f (l.flatMap oneB) = (l, 0, 0)
  | [], f, _, _ => by cases f <;> simp [parseG]
  | r :: l, 0, _, h => by omega
  | r :: l, f + 1, h, hf => by
    have hp := oneB_pos r
    have hne : oneB r ++ l.flatMap oneB ≠ [] := fun e => by
      have := congrArg List.length e
      simp only [List.length_append, List.length_nil] at this
      omega
    rw [List.flatMap_cons, List.length_append] at hf
    rw [List.flatMap_cons, parseG, if_neg hne, oneP_put r (h r (by simp)).1 (h r (by simp)).2]
    simp only
    rw [List.drop_left, parseG_put l f (fun x hx => h x (by simp [hx])) (by omega)]
    simp
theorem parseG_right : ∀ (f : Nat) (l : List UInt8), l.length ≤ 4000 → (parseG f l).2.1 = 0 → l.length < f → (∀ r ∈ (parseG f l).1, wrongRec r = 0 ∧ r.bits < 2 ^ 64) ∧ ((parseG f l).1.flatMap oneB).length ≤ l.length
  | 0, _, _, _, h => by omega
  | f + 1, l, hl, h, hf => by
    rw [parseG] at h ⊢
    by_cases hn : l = []
    · rw [if_pos hn]; simp
    · rw [if_neg hn] at h ⊢
      by_cases ho : (oneP l).1 = 0
      · have hk := oneP_ok ho
        have hr := oneP_right ho hl
        rw [if_neg (by simpa using ho)] at h ⊢
        simp only at h ⊢
        by_cases hp : (parseG f (l.drop (oneP l).2.2)).2.1 = 0
        · rw [if_neg (by simpa using hp)]
          obtain ⟨h1, h2⟩ := parseG_right f _ (by rw [List.length_drop]; omega) hp (by rw [List.length_drop]; omega)
          refine ⟨fun r hr' => ?_, ?_⟩
          · rcases List.mem_cons.1 hr' with rfl | hx
            · exact ⟨hr.1, hk.2.2.1⟩
            · exact h1 r hx
          · rw [List.flatMap_cons, List.length_append]
            rw [List.length_drop] at h2
            omega
        · rw [if_pos hp] at h; exact absurd h hp
      · rw [if_pos ho] at h; exact absurd h ho
end Go.Proofs.YtbceapeoknngnaaGreatDoor
