/-
  Package wire: Tag, fixed, Add, onto a row of the call's own.
-/
import Derived.Test.YtplgegffapikoaaProg
import Derived.Test.YtplgegffapikoaaBase
import Derived.Test.YtplgegffapikoaaPlainWire
import Derived.Test.YtplgegffapikoaaWire1
import Derived.Outline
import Derived.Deep.RegionHeld3
namespace Go.Proofs.Ytplgegffapikoaa
open Go.RowKit

theorem put_eq (base : Nat) (v : Value) (l : List UInt8) (X : Int) (x : Nat) (w : World) (hX : X = (x : Int)) (hx : x < 2 ^ 64) (hl : l.length ≤ 1099511627776)
    (hown : w.ownsRow base 5 1 v l.length (B8 l)) (hb : base ≤ w.heap.size) :
    Calls Try.prog 11 #[v, .int .u64 X] w fun e w' => ∃ v', e = .returned v' ∧ w'.ownsRow base 5 1 v' (l ++ Lib.uvarint x).length (B8 (l ++ Lib.uvarint x)) ∧ Evo w w' v v' := by
  subst hX
  exact put_own base v l x w hx hl hown hb

set_option maxRecDepth 100000 in
set_option maxHeartbeats 400000 in
theorem tag_own (base : Nat) (v : Value) (l : List UInt8) (n h : Int) (w : World) (n0 : 0 ≤ n) (n1 : n < 536870912) (h0 : 0 ≤ h) (h1 : h < 8) (hl : l.length ≤ 1099511627776)
    (hown : w.ownsRow base 5 1 v l.length (B8 l)) (hb : base ≤ w.heap.size) :
    Calls Try.prog 63 #[v, .int .i64 n, .int .i64 h] w fun e w' => ∃ v', e = .returned v' ∧ w'.ownsRow base 5 1 v' (l ++ tagB n.toNat h.toNat).length (B8 (l ++ tagB n.toNat h.toNat)) ∧ Evo w w' v v' := by
  have hb2 := tag_bits n h n0 n1 h0 h1
  have Hb2 := Lib.hid hb2; clear hb2
  go_enter Try.func63, Try.ntmps63
  go_wp2_with fail
  refine (put_eq base _ l _ (8 * n.toNat + h.toNat) _ Hb2.out (by omega) hl hown hb).mono ?_
  rintro e w1 ⟨v1, rfl, how1, hev1⟩
  go_wp2_with fail
  go_ret
  exact ⟨_, rfl, how1, hev1⟩

set_option maxRecDepth 100000 in
set_option maxHeartbeats 400000 in
theorem fixed_own (base : Nat) (v : Value) (l : List UInt8) (x size : Nat) (w : World) (hx : x < 2 ^ 64) (hs : size ≤ 8) (hl : l.length ≤ 1099511627776)
    (hown : w.ownsRow base 5 1 v l.length (B8 l)) (hb : base ≤ w.heap.size) :
    Calls Try.prog 64 #[v, .int .u64 x, .int .i64 size] w fun e w' => ∃ v', e = .returned v' ∧ w'.ownsRow base 5 1 v' (l ++ lowB size x).length (B8 (l ++ lowB size x)) ∧ Evo w w' v v' := by
  have Hx := Lib.hid hx; clear hx
  go_enter Try.func64, Try.ntmps64
  go_wp2_with fail
  go_loopw [0, 1, 8] (fun s y i wr => ∃ (d : List UInt8) (z k : Nat), z < 2 ^ 64 ∧ k ≤ size ∧ y = .int .u64 z ∧ i = .int .i64 k ∧ d ++ lowB (size - k) z = lowB size x ∧ wr.ownsRow base 5 1 s (l ++ d).length (B8 (l ++ d)) ∧ Evo w wr v s)
    (fun _ _ i _ => size - (intOf i).toNat)
  case atStart => exact ⟨[], x, 0, Hx.out, by omega, rfl, rfl, rfl, by simpa using hown, Evo.refl _ _⟩
  case round =>
    obtain ⟨d, z, k, hz, hk, rfl, rfl, hd, how, hev⟩ := hrel
    have hdl : (l ++ d).length ≤ 1099511627776 + 8 := by
      have h1 := congrArg List.length hd
      simp only [List.length_append, lowB_length] at h1 ⊢
      omega
    have hsz : base ≤ wr.heap.size := by have := hev.grown.size; omega
    have Hz := Lib.hid hz; clear hz
    have Hd := Lib.hid hd; clear hd
    have Hev := Lib.hid hev; clear hev
    by_cases hlt : k < size
    · go_wp2_with (at_builtin; go_loud (refine wpList_app_one eU8 wr rfl _ _ rfl base _ _ _ rfl how rfl rfl (by intro u hu; simp at hu; subst hu; rfl) (by omega) (by unfold maxLen; omega) (by omega) ?_); intro v1 w1 how1 (hev1 : Evo wr w1 u0 v1))
      go_roundw
      case rel =>
        refine ⟨d ++ [z.toUInt8], z / 256, k + 1, by have := Hz.out; omega, by omega, rfl, by go_num, ?_, ?_, Hev.out.trans hev1⟩
        · rw [← Hd.out, show size - k = (size - (k + 1)) + 1 by omega, lowB]; simp
        · have e : Value.int .u8 ((z : Int) % 256) = .int .u8 ((z.toUInt8.toNat : Nat) : Int) := by
            rfl
          rw [e] at how1
          simpa [B8, ← List.append_assoc, Nat.add_assoc] using how1
      case measure => simp [intOf]; omega
    · go_wp2_with fail
      go_ret
      have hd := Hd.out
      rw [show size - k = 0 by omega, lowB, List.append_nil] at hd
      rw [← hd]
      exact ⟨_, rfl, how, Hev.out⟩
set_option maxRecDepth 100000 in
set_option maxHeartbeats 400000 in
/-- Add, of a right record. -/
theorem add_own (base : Nat) (v : Value) (l : List UInt8) (r : Rec) (vb : Value) (w : World) (hv : RdB (Av v) w vb r.bytes) (hr : wrongRec r = 0) (hb64 : r.bits < 2 ^ 64) (hl : l.length ≤ 1099511627776 - 4100)
    (hown : w.ownsRow base 5 1 v l.length (B8 l)) (hb : base ≤ w.heap.size) :
    Calls Try.prog 37 #[v, .agg #[.int .i64 r.number, .int .i64 r.how, .int .u64 r.bits, vb]] w fun e w' => ∃ v', e = .returned v' ∧ w'.ownsRow base 5 1 v' (l ++ oneB r).length (B8 (l ++ oneB r)) ∧ Evo w w' v v' := by
  obtain ⟨n1, n2, hh, hb4, hy⟩ := wrongRec_ok hr
  obtain ⟨ao, cap, rfl, hc1, hc2⟩ := hv.val
  obtain ⟨number, how, bits, bytes⟩ := r
  simp only at *
  have htl := tagB_length number.toNat how.toNat (by omega) (by omega)
  have Hb64 := Lib.hid hb64; clear hb64
  have Hr := Lib.hid hr; clear hr
  have Hv := Lib.hid hv; clear hv
  have Hown := Lib.hid hown; clear hown
  go_enter Try.func37, Try.ntmps37
  go_wp2_with fail
  refine (tag_own base _ l number how _ (by omega) (by omega) (by omega) (by omega) (by omega) (Hown.out.alloc _) (by simp; omega)).mono ?_
  rintro e w1 ⟨v1, rfl, how1, hev1⟩
  have hblk := Evo.box hev1 (fun k hk => (Hown.out.lt k hk).2)
  have c1 : w1.cell? ⟨w.heap.size, 1, none⟩ = some (.int .i64 how) := cell_of_row w1 _ 1 _ _ _ hblk
  have c2 : w1.cell? ⟨w.heap.size, 2, none⟩ = some (.int .u64 (bits : Int)) := cell_of_row w1 _ 2 _ _ _ hblk
  have c3 : w1.cell? ⟨w.heap.size, 3, none⟩ = some (.slice ao bytes.length cap) := cell_of_row w1 _ 3 _ _ _ hblk
  have hs1 : w.heap.size < w1.heap.size := by have := hev1.grown.size; simp at this; omega
  have hlt : (l ++ tagB number.toNat how.toNat).length ≤ 1099511627776 - 4095 := by simp only [List.length_append]; omega
  have Hblk := Lib.hid hblk; clear hblk
  have hev := Evo.of_alloc hev1
  have Hev := Lib.hid hev; clear hev
  have How1 := Lib.hid how1; clear how1
  have Hev1 := Lib.hid hev1; clear hev1
  have Hlt := Lib.hid hlt; clear hlt
  have Hhy := Lib.hid hy; clear hy
  have Hb4 := Lib.hid hb4; clear hb4
  rcases hh with rfl | rfl | rfl | rfl
  · go_wp2_with fail
    refine (put_own base _ _ bits _ Hb64.out (by have := Hlt.out; omega) How1.out (by omega)).mono ?_
    rintro e w2 ⟨v2, rfl, how2, hev2⟩
    go_wp2_with fail
    go_ret
    rw [List.append_assoc] at how2
    exact ⟨_, rfl, how2, Hev.out.trans hev2⟩
  · go_wp2_with fail
    refine (fixed_own base _ _ bits 8 _ Hb64.out (by omega) (by have := Hlt.out; omega) How1.out (by omega)).mono ?_
    rintro e w2 ⟨v2, rfl, how2, hev2⟩
    go_wp2_with fail
    go_ret
    rw [List.append_assoc] at how2
    exact ⟨_, rfl, how2, Hev.out.trans hev2⟩
  · go_wp2_with fail
    refine (fixed_own base _ _ bits 4 _ Hb64.out (by omega) (by have := Hlt.out; omega) How1.out (by omega)).mono ?_
    rintro e w2 ⟨v2, rfl, how2, hev2⟩
    go_wp2_with fail
    go_ret
    rw [List.append_assoc] at how2
    exact ⟨_, rfl, how2, Hev.out.trans hev2⟩
  · have Hv1 := Lib.hid (Hv.out.keep stable_u8 (Keep.evo Hev.out))
    have hne : v1.ownBlock ≠ some w.heap.size := fun e => by
      rcases How1.out.2 with ⟨rfl, _⟩ | ⟨g, cap', cur, rfl, _, hg, _⟩
      · cases e
      · simp only [Value.ownBlock, Option.some.injEq] at e
        subst e
        rw [Hblk.out] at hg
        simp at hg
    have Hne := Lib.hid hne; clear hne
    have hby : bytes.length ≤ 4000 := by rcases Hhy.out with h | h <;> omega
    have hsum : (l ++ tagB number.toNat (Int.toNat 2) ++ Lib.uvarint bytes.length).length + bytes.length ≤ 1099511627776 + 100 := by
      have h1 := Hlt.out
      have h2 := Lib.uvarint_length64 (x := bytes.length) (by omega)
      rw [List.length_append]
      omega
    have Hsum := Lib.hid hsum; clear hsum
    go_wp2_with fail
    go_region_held3 (fun w' => w'.cell? ⟨w.heap.size, 3, none⟩ = some (.slice ao bytes.length cap)) (first | go_keep | exact cell_of_row _ _ 3 _ _ _ (hev2.undrew.blk Hblk.out Hne.out) | exact cell_of_row _ _ 3 _ _ _ ((hev2.undrew.trans hev3).blk Hblk.out Hne.out))
      (first | (go_at_call 11; refine (put_eq base _ _ _ bytes.length _ (by rw [IntKind.wrap_u64]; omega) (by omega) (by have := Hlt.out; omega) How1.out.drew (by simp; omega)).mono ?_; rintro e w2 ⟨v2, rfl, how2, hev2⟩; have Hrd2 := Lib.hid (RdB.news (Hv1.out.keep stable_u8 (Keep.evo hev2.undrew))); have hs2 : base ≤ w2.heap.size := by have h9 := hev2.undrew.grown.size; omega) | (refine step_app eU8 _ (by rfl) _ _ (by rfl) base v2 _ _ (by rfl) how2 ao bytes.length cap (by rfl) (B8 bytes) (by simp [B8]) (Hrd2.out.2.1) (Hrd2.out.2.2) (B8_one _) (by have := Hsum.out; omega) (by have := Hsum.out; unfold maxLen; omega) (by omega) ?_; intro v3 w3 how3 hev3))
    go_wp2_with fail
    go_ret
    refine ⟨_, rfl, ?_, Hev.out.trans (hev2.undrew.trans hev3)⟩
    have e : l ++ oneB ⟨number, 2, bits, bytes⟩ = l ++ tagB number.toNat (Int.toNat 2) ++ Lib.uvarint bytes.length ++ bytes := by simp [oneB]
    rw [e, List.length_append, B8_append]
    exact how3
end Go.Proofs.Ytplgegffapikoaa
