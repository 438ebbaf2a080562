/-
  Package wire: Tag, fixed, Add, onto a row of the call's own.
  Package wire in plain Lean: a number comes back.
  Package wire in plain Lean: records come back; one behind the other.
-/
import Derived.Test.YtbceapeoknngnaaGreatDoorProg
import Derived.Test.YtbceapeoknngnaaGreatDoorCp02
import Derived.Test.YtbceapeoknngnaaGreatDoorCp01
import Derived.Test.YtbceapeoknngnaaGreatDoorCp14
import Derived.Outline
import Derived.Deep.RegionHeld3
import Derived.Test.YtbceapeoknngnaaGreatDoorCp03
namespace Go.Proofs.YtbceapeoknngnaaGreatDoor
open Go.RowKit
theorem put_eq (base : Nat) (v : Value) (l : List UInt8) (X : Int) (x : Nat) (w : World) (hX : X = (x : Int)) (hx : x < 2 ^ 64) (hl : l.length ≤ 1099511627776)
    (hown : w.ownsRow base 5 1 v l.length (B8 l)) (hb : base ≤ w.heap.size) :
    Calls Tryz.prog 109 #[v, .int .u64 X] w fun e w' => ∃ v', e = .returned v' ∧ w'.ownsRow base 5 1 v' (l ++ Lib.uvarint x).length (B8 (l ++ Lib.uvarint x)) ∧ Evo w w' v v' := by
  subst hX
  exact put_own base v l x w hx hl hown hb
set_option maxRecDepth 100000 in
set_option maxHeartbeats 400000 in
theorem tag_own (base : Nat) (v : Value) (l : List UInt8) (n h : Int) (w : World) (n0 : 0 ≤ n) (n1 : n < 536870912) (h0 : 0 ≤ h) (h1 : h < 8) (hl : l.length ≤ 1099511627776)
    (hown : w.ownsRow base 5 1 v l.length (B8 l)) (hb : base ≤ w.heap.size) :
    Calls Tryz.prog 108 #[v, .int .i64 n, .int .i64 h] w fun e w' => ∃ v', e = .returned v' ∧ w'.ownsRow base 5 1 v' (l ++ tagB n.toNat h.toNat).length (B8 (l ++ tagB n.toNat h.toNat)) ∧ Evo w w' v v' := by
  have hb2 := tag_bits n h n0 n1 h0 h1
  have Hb2 := Lib.hid hb2; clear hb2
  go_enter Tryz.func108, Tryz.ntmps108
  go_wp2_with fail
  refine (put_eq base _ l _ (8 * n.toNat + h.toNat) _ Hb2.out (by omega) hl hown hb).mono ?_
  rintro e w1 ⟨v1, rfl, how1, hev1⟩
  go_wp2_with fail
  go_ret
  exact ⟨_, rfl, how1, hev1⟩
set_option maxRecDepth 100000 in
set_option maxHeartbeats 400000 in
theorem fixed_own (base : Nat) (v : Value) (l : List UInt8) (x size : Nat) (w : World) (hx : x < 2 ^ 64) (hs : size ≤ 8) (hl : l.length ≤ 1099511627776)
    (hown : w.ownsRow base 5 1 v l.length (B8 l)) (hb : base ≤ w.heap.size) :
    Calls Tryz.prog 110 #[v, .int .u64 x, .int .i64 size] w fun e w' => ∃ v', e = .returned v' ∧ w'.ownsRow base 5 1 v' (l ++ lowB size x).length (B8 (l ++ lowB size x)) ∧ Evo w w' v v' := by
  have Hx := Lib.hid hx; clear hx
  go_enter Tryz.func110, Tryz.ntmps110
  go_wp2_with fail
  go_loopw [0, 1, 8] (fun s y i wr => ∃ (d : List UInt8) (z k : Nat), z < 2 ^ 64 ∧ k ≤ size ∧ y = .int .u64 z ∧ i = .int .i64 k ∧ d ++ lowB (size - k) z = lowB size x ∧ wr.ownsRow base 5 1 s (l ++ d).length (B8 (l ++ d)) ∧ Evo w wr v s)
    (fun _ _ i _ => size - (intOf i).toNat)
  case atStart => exact ⟨[], x, 0, Hx.out, by omega, rfl, rfl, rfl, by simpa using hown, Evo.refl _ _⟩
  case round =>
    obtain ⟨d, z, k, hz, hk, rfl, rfl, hd, how, hev⟩ := hrel
    have hdl : (l ++ d).length ≤ 1099511627776 + 8 := by
      have h1 := congrArg List.length hd
      simp only [List.length_append, lowB_length] at h1 ⊢
      omega
    have hsz : base ≤ wr.heap.size := by have := hev.grown.size; omega
    have Hz := Lib.hid hz; clear hz
    have Hd := Lib.hid hd; clear hd
    have Hev := Lib.hid hev; clear hev
    by_cases hlt : k < size
    · go_wp2_with (at_builtin; go_loud (refine wpList_app_one eU8 wr rfl _ _ rfl base _ _ _ rfl how rfl rfl (by intro u hu; simp at hu; subst hu; rfl) (by omega) (by unfold maxLen; omega) (by omega) ?_); intro v1 w1 how1 (hev1 : Evo wr w1 u0 v1))
      go_roundw
      case rel =>
        refine ⟨d ++ [z.toUInt8], z / 256, k + 1, by have := Hz.out; omega, by omega, rfl, by go_num, ?_, ?_, Hev.out.trans hev1⟩
        · rw [← Hd.out, show size - k = (size - (k + 1)) + 1 by omega, lowB]; simp
        · have e : Value.int .u8 ((z : Int) % 256) = .int .u8 ((z.toUInt8.toNat : Nat) : Int) := by
            rfl
          rw [e] at how1
          simpa [B8, ← List.append_assoc, Nat.add_assoc] using how1
      case measure => simp [intOf]; omega
    · go_wp2_with fail
      go_ret
      have hd := Hd.out
      rw [show size - k = 0 by omega, lowB, List.append_nil] at hd
      rw [← hd]
      exact ⟨_, rfl, how, Hev.out⟩
set_option maxRecDepth 100000 in
set_option maxHeartbeats 400000 in
theorem add_own (base : Nat) (v : Value) (l : List UInt8) (r : Rec) (vb : Value) (w : World) (hv : RdB (Av v) w vb r.bytes) (hr : wrongRec r = 0) (hb64 : r.bits < 2 ^ 64) (hl : l.length ≤ 1099511627776 - 4100)
    (hown : w.ownsRow base 5 1 v l.length (B8 l)) (hb : base ≤ w.heap.size) :
    Calls Tryz.prog 59 #[v, .agg #[.int .i64 r.number, .int .i64 r.how, .int .u64 r.bits, vb]] w fun e w' => ∃ v', e = .returned v' ∧ w'.ownsRow base 5 1 v' (l ++ oneB r).length (B8 (l ++ oneB r)) ∧ Evo w w' v v' := by
  obtain ⟨n1, n2, hh, hb4, hy⟩ := wrongRec_ok hr
  obtain ⟨ao, cap, rfl, hc1, hc2⟩ := hv.val
  obtain ⟨number, how, bits, bytes⟩ := r
  simp only at *
  have htl := tagB_length number.toNat how.toNat (by omega) (by omega)
  have Hb64 := Lib.hid hb64; clear hb64
  have Hr := Lib.hid hr; clear hr
  have Hv := Lib.hid hv; clear hv
  have Hown := Lib.hid hown; clear hown
  go_enter Tryz.func59, Tryz.ntmps59
  go_wp2_with fail
  refine (tag_own base _ l number how _ (by omega) (by omega) (by omega) (by omega) (by omega) (Hown.out.alloc _) (by simp; omega)).mono ?_
  rintro e w1 ⟨v1, rfl, how1, hev1⟩
  have hblk := Evo.box hev1 (fun k hk => (Hown.out.lt k hk).2)
  have c1 : w1.cell? ⟨w.heap.size, 1, none⟩ = some (.int .i64 how) := cell_of_row w1 _ 1 _ _ _ hblk
  have c2 : w1.cell? ⟨w.heap.size, 2, none⟩ = some (.int .u64 (bits : Int)) := cell_of_row w1 _ 2 _ _ _ hblk
  have c3 : w1.cell? ⟨w.heap.size, 3, none⟩ = some (.slice ao bytes.length cap) := cell_of_row w1 _ 3 _ _ _ hblk
  have hs1 : w.heap.size < w1.heap.size := by have := hev1.grown.size; simp at this; omega
  have hlt : (l ++ tagB number.toNat how.toNat).length ≤ 1099511627776 - 4095 := by simp only [List.length_append]; omega
  have Hblk := Lib.hid hblk; clear hblk
  have hev := Evo.of_alloc hev1
  have Hev := Lib.hid hev; clear hev
  have How1 := Lib.hid how1; clear how1
  have Hev1 := Lib.hid hev1; clear hev1
  have Hlt := Lib.hid hlt; clear hlt
  have Hhy := Lib.hid hy; clear hy
  have Hb4 := Lib.hid hb4; clear hb4
  rcases hh with rfl | rfl | rfl | rfl
  · go_wp2_with fail
    refine (put_own base _ _ bits _ Hb64.out (by have := Hlt.out; omega) How1.out (by omega)).mono ?_
    rintro e w2 ⟨v2, rfl, how2, hev2⟩
    go_wp2_with fail
    go_ret
    rw [List.append_assoc] at how2
    exact ⟨_, rfl, how2, Hev.out.trans hev2⟩
  · go_wp2_with fail
    refine (fixed_own base _ _ bits 8 _ Hb64.out (by omega) (by have := Hlt.out; omega) How1.out (by omega)).mono ?_
    rintro e w2 ⟨v2, rfl, how2, hev2⟩
    go_wp2_with fail
    go_ret
    rw [List.append_assoc] at how2
    exact ⟨_, rfl, how2, Hev.out.trans hev2⟩
  · go_wp2_with fail
    refine (fixed_own base _ _ bits 4 _ Hb64.out (by omega) (by have := Hlt.out; omega) How1.out (by omega)).mono ?_
    rintro e w2 ⟨v2, rfl, how2, hev2⟩
    go_wp2_with fail
    go_ret
    rw [List.append_assoc] at how2
    exact ⟨_, rfl, how2, Hev.out.trans hev2⟩
  · have Hv1 := Lib.hid (Hv.out.keep stable_u8 (Keep.evo Hev.out))
    have hne : v1.ownBlock ≠ some w.heap.size := fun e => by
      rcases How1.out.2 with ⟨rfl, _⟩ | ⟨g, cap', cur, rfl, _, hg, _⟩
      · cases e
      · simp only [Value.ownBlock, Option.some.injEq] at e
        subst e
        rw [Hblk.out] at hg
        simp at hg
    have Hne := Lib.hid hne; clear hne
    have hby : bytes.length ≤ 4000 := by rcases Hhy.out with h | h <;> omega
    have hsum : (l ++ tagB number.toNat (Int.toNat 2) ++ Lib.uvarint bytes.length).length + bytes.length ≤ 1099511627776 + 100 := by
      have h1 := Hlt.out
      have h2 := Lib.uvarint_length64 (x := bytes.length) (by omega)
      rw [List.length_append]
      omega
    have Hsum := Lib.hid hsum; clear hsum
    go_wp2_with fail
    go_region_held3 (fun w' => w'.cell? ⟨w.heap.size, 3, none⟩ = some (.slice ao bytes.length cap)) (first | go_keep | exact cell_of_row _ _ 3 _ _ _ (hev2.undrew.blk Hblk.out Hne.out) | exact cell_of_row _ _ 3 _ _ _ ((hev2.undrew.trans hev3).blk Hblk.out Hne.out))
      (first | (go_at_call 109; refine (put_eq base _ _ _ bytes.length _ (by rw [IntKind.wrap_u64]; omega) (by omega) (by have := Hlt.out; omega) How1.out.drew (by simp; omega)).mono ?_; rintro e w2 ⟨v2, rfl, how2, hev2⟩; have Hrd2 := Lib.hid (RdB.news (Hv1.out.keep stable_u8 (Keep.evo hev2.undrew))); have hs2 : base ≤ w2.heap.size := by have h9 := hev2.undrew.grown.size; omega) | (refine step_app eU8 _ (by rfl) _ _ (by rfl) base v2 _ _ (by rfl) how2 ao bytes.length cap (by rfl) (B8 bytes) (by simp [B8]) (Hrd2.out.2.1) (Hrd2.out.2.2) (B8_one _) (by have := Hsum.out; omega) (by have := Hsum.out; unfold maxLen; omega) (by omega) ?_; intro v3 w3 how3 hev3))
    go_wp2_with fail
    go_ret
    refine ⟨_, rfl, ?_, Hev.out.trans (hev2.undrew.trans hev3)⟩
    have e : l ++ oneB ⟨number, 2, bits, bytes⟩ = l ++ tagB number.toNat (Int.toNat 2) ++ Lib.uvarint bytes.length ++ bytes := by simp [oneB]
    rw [e, List.length_append, B8_append]
    exact how3
end Go.Proofs.YtbceapeoknngnaaGreatDoor
namespace Go.Proofs.YtbceapeoknngnaaGreatDoor
open Go.Lib
theorem getF_put (m : List UInt8) : ∀ (f x i n : Nat), x < f → i ≤ 9 → x < 2 ^ (64 - 7 * i) → getF i n (uvarint x ++ m) = (n + x * 2 ^ (7 * i), i + (uvarint x).length, 0)
  | 0, _, _, _, h, _, _ => by omega
  | f + 1, x, i, n, hf, hi, hx => by
    by_cases h : x < 128
    · have hc : x.toUInt8.toNat = x := by simp only [Nat.toUInt8_eq, UInt8.toNat_ofNat']; omega
      rw [uvarint_small h, List.cons_append, getF, hc, if_neg ?_, if_pos h]
      · simp
      · rintro ⟨rfl, h1⟩
        have : x < 2 ^ (64 - 7 * 9) := hx
        omega
    · have hc : (x % 128 + 128).toUInt8.toNat = x % 128 + 128 := by simp only [Nat.toUInt8_eq, UInt8.toNat_ofNat']; omega
      have hi9 : i ≠ 9 := by
        rintro rfl
        have : x < 2 ^ (64 - 7 * 9) := hx
        omega
      rw [uvarint_big (by omega), List.cons_append, getF, hc, if_neg (by omega), if_neg (by omega), getF_put m f (x / 128) (i + 1) _ (by omega) (by omega) ?_]
      · have e : (x % 128 + 128) % 128 = x % 128 := by omega
        rw [e]
        have e2 : 2 ^ (7 * (i + 1)) = 128 * 2 ^ (7 * i) := by rw [show 7 * (i + 1) = 7 + 7 * i by omega, Nat.pow_add]
        rw [e2]
        have e3 : x / 128 * (128 * 2 ^ (7 * i)) = (x / 128 * 128) * 2 ^ (7 * i) := by rw [Nat.mul_assoc]
        rw [e3, Nat.add_assoc, ← Nat.add_mul]
        have e4 : x % 128 + x / 128 * 128 = x := by omega
        rw [e4]
        simp only [List.length_cons, Prod.mk.injEq, and_true, true_and]
        omega
      · have e : 64 - 7 * i = 7 + (64 - 7 * (i + 1)) := by omega
        rw [e, Nat.pow_add] at hx
        exact Nat.div_lt_of_lt_mul (by simpa using hx)
theorem get_put (x : Nat) (m : List UInt8) (hx : x < 2 ^ 64) : get (uvarint x ++ m) = (x, (uvarint x).length, 0) := by
  have := getF_put m (x + 1) x 0 0 (by omega) (by omega) (by simpa using hx)
  simpa using this
theorem unzig_zigzag (s : Int) : unzig (zigzag s) = s := by
  unfold zigzag unzig
  split
  · rename_i h
    rw [if_pos (by omega)]; omega
  · rename_i h
    rw [if_neg (by omega)]; omega
theorem unzig_range {n : Nat} (h : n < 2 ^ 64) : -9223372036854775808 ≤ unzig n ∧ unzig n ≤ 9223372036854775807 := by
  unfold unzig; split <;> omega
end Go.Proofs.YtbceapeoknngnaaGreatDoor
namespace Go.Proofs.YtbceapeoknngnaaGreatDoor
open Go.Lib
theorem getF_append : ∀ (l m : List UInt8) (i n : Nat), (getF i n l).2.2 = 0 → getF i n (l ++ m) = getF i n l
  | [], m, i, n, h => by simp [getF] at h
  | c :: r, m, i, n, h => by
    rw [List.cons_append, getF, getF]
    rw [getF] at h
    by_cases h9 : i = 9 ∧ 1 < c.toNat
    · rw [if_pos h9] at h; simp at h
    · rw [if_neg h9] at h ⊢
      rw [if_neg h9]
      by_cases h1 : c.toNat < 128
      · rw [if_pos h1, if_pos h1]
      · rw [if_neg h1] at h ⊢
        rw [if_neg h1]
        exact getF_append r m _ _ h
theorem get_append {l : List UInt8} (m : List UInt8) (h : (get l).2.2 = 0) : get (l ++ m) = get l := getF_append l m 0 0 h
theorem numB_append {k : Nat} {l : List UInt8} (m : List UInt8) (h : (numB k l).2 = 0) : numB k (l ++ m) = numB k l := by
  unfold numB at *
  by_cases hl : l.length < k
  · rw [if_pos hl] at h; simp at h
  · rw [if_neg hl, if_neg (by rw [List.length_append]; omega), List.take_append_of_le_length (by omega)]
theorem oneP_append {l : List UInt8} (m : List UInt8) (h : (oneP l).1 = 0) : oneP (l ++ m) = oneP l := by
  revert h
  have hg := @get_append l m
  have hgo := @get_ok l
  unfold oneP
  simp only
  by_cases he : (get l).2.2 = 0
  · rw [hg he]
    obtain ⟨k1, k2, k3, k4⟩ := hgo he
    have he' : ¬ (get l).2.2 ≠ 0 := by simpa using he
    have hd : (l ++ m).drop (get l).2.1 = l.drop (get l).2.1 ++ m := List.drop_append_of_le_length k2
    rw [hd]
    simp only [if_neg he']
    by_cases hn : (get l).1 / 8 < 1 ∨ 536870912 ≤ (get l).1 / 8
    · simp only [if_pos hn]; intros; trivial
    · simp only [if_neg hn]
      by_cases h0 : (get l).1 % 8 = 0
      · simp only [if_pos h0]
        by_cases h1 : (get (l.drop (get l).2.1)).2.2 = 0
        · rw [get_append m h1]; intros; rfl
        · rw [if_pos h1]; intro h; exact absurd h h1
      · simp only [if_neg h0]
        by_cases h8 : (get l).1 % 8 = 1
        · simp only [if_pos h8]
          by_cases h1 : (numB 8 (l.drop (get l).2.1)).2 = 0
          · rw [numB_append m h1]; intros; rfl
          · rw [if_pos h1]; intro h; exact absurd h h1
        · simp only [if_neg h8]
          by_cases h5 : (get l).1 % 8 = 5
          · simp only [if_pos h5]
            by_cases h1 : (numB 4 (l.drop (get l).2.1)).2 = 0
            · rw [numB_append m h1]; intros; rfl
            · rw [if_pos h1]; intro h; exact absurd h h1
          · simp only [if_neg h5]
            by_cases h2 : (get l).1 % 8 = 2
            · simp only [if_pos h2]
              by_cases h1 : (get (l.drop (get l).2.1)).2.2 = 0
              · have hg2 := get_ok h1
                have h1' : ¬ (get (l.drop (get l).2.1)).2.2 ≠ 0 := by simpa using h1
                rw [get_append m h1]
                simp only [if_neg h1']
                by_cases hx : (l.drop (get l).2.1).length - (get (l.drop (get l).2.1)).2.1 < (get (l.drop (get l).2.1)).1
                · rw [if_pos hx]; intro h; simp at h
                · rw [if_neg hx, if_neg (by rw [List.length_append]; omega)]
                  intros
                  rw [List.drop_append_of_le_length hg2.2.1, List.take_append_of_le_length (by rw [List.length_drop]; omega)]
              · rw [if_pos h1]; intro h; exact absurd h h1
            · simp only [if_neg h2]; intros; trivial
  · rw [if_pos he]; intro h; exact absurd h he
theorem parseG_fuel : ∀ (f g : Nat) (l : List UInt8), l.length < f → l.length < g → parseG f l = parseG g l
  | 0, _, _, h, _ => by omega
  | _, 0, _, _, h => by omega
  | f + 1, g + 1, l, h1, h2 => by
    rw [parseG, parseG]
    by_cases hl : l = []
    · rw [if_pos hl, if_pos hl]
    · rw [if_neg hl, if_neg hl]
      by_cases ho : (oneP l).1 = 0
      · have hk := oneP_ok ho
        have ho' : ¬ (oneP l).1 ≠ 0 := by simpa using ho
        simp only [if_neg ho']
        rw [parseG_fuel f g (l.drop (oneP l).2.2) (by rw [List.length_drop]; omega) (by rw [List.length_drop]; omega)]
      · rw [if_pos ho, if_pos ho]
theorem parseG_append : ∀ (f : Nat) (a b : List UInt8), a.length < f → (parseG f a).2.1 = 0 → parseG (f + b.length) (a ++ b) = parseC a.length (parseG f a).1 (parseG (b.length + 1) b)
  | 0, _, _, h, _ => by omega
  | f + 1, a, b, hf, he => by
    by_cases ha : a = []
    · subst ha
      have e : parseG (f + 1) [] = ([], 0, 0) := by rw [parseG, if_pos rfl]
      rw [e, List.nil_append]
      simp only [List.length_nil]
      rw [parseC_start, parseG_fuel _ (b.length + 1) b (by omega) (by omega)]
    · rw [parseG, if_neg ha] at he
      by_cases ho : (oneP a).1 = 0
      · have hk := oneP_ok ho
        rw [if_neg (by simpa using ho)] at he
        simp only at he
        have hp : (parseG f (a.drop (oneP a).2.2)).2.1 = 0 := by
          by_cases h : (parseG f (a.drop (oneP a).2.2)).2.1 = 0
          · exact h
          · rw [if_pos h] at he; exact absurd he h
        have ih := parseG_append f (a.drop (oneP a).2.2) b (by rw [List.length_drop]; omega) hp
        have e1 : parseG (f + 1) a = ((oneP a).2.1 :: (parseG f (a.drop (oneP a).2.2)).1, 0, 0) := by
          rw [parseG, if_neg ha, if_neg (by simpa using ho)]
          simp only
          rw [if_neg (by simpa using hp)]
        have e2 : f + 1 + b.length = (f + b.length) + 1 := by omega
        rw [e1, e2, parseG, if_neg (by simp [ha]), oneP_append b ho, if_neg (by simpa using ho), List.drop_append_of_le_length hk.2.1]
        simp only
        rw [ih]
        simp only [List.length_drop]
        unfold parseC
        by_cases hq : (parseG (b.length + 1) b).2.1 = 0
        · have hq' : ¬ (parseG (b.length + 1) b).2.1 ≠ 0 := by simpa using hq
          simp only [if_neg hq']
          simp
        · simp only [if_pos hq]
          have e : (oneP a).2.2 + (a.length - (oneP a).2.2 + (parseG (b.length + 1) b).2.2) = a.length + (parseG (b.length + 1) b).2.2 := by omega
          rw [e]
      · rw [if_pos ho] at he; exact absurd he ho
theorem parse_append {a b : List UInt8} (h : (parse a).2.1 = 0) (hl : a.length + b.length ≤ 4000) : parse (a ++ b) = parseC a.length (parse a).1 (parse b) := by
  unfold parse at *
  rw [if_neg (by omega)] at h
  rw [if_neg (by rw [List.length_append]; omega), if_neg (by omega), if_neg (by omega), ← parseG_append (a.length + 1) a b (by omega) h]
  rw [List.length_append]
  congr 1
  omega
end Go.Proofs.YtbceapeoknngnaaGreatDoor
