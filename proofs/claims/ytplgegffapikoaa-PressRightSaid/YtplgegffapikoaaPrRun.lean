/-
  body.Get; press.num, press.blob.
-/
import Derived.Test.YtplgegffapikoaaAdd
import Derived.Test.YtplgegffapikoaaFold
import Derived.Test.YtplgegffapikoaaPressSpec
import Derived.Test.YtplgegffapikoaaOwn
import Derived.Test.YtplgegffapikoaaDrew
import Derived.BigQuiet
set_option linter.unusedVariables false
namespace Go.Proofs.Ytplgegffapikoaa
open Go.RowKit
/-- A value in a body, as it lies: its number, and three slices. -/
def DVal4 : Lay (Int × Value × Value × Value) := fun _ _ x cs => cs = [.int .i64 x.1, x.2.1, x.2.2.1, x.2.2.2] ∧ (∃ a n c, x.2.1 = .slice a n c) ∧ (∃ a n c, x.2.2.1 = .slice a n c) ∧ ∃ a n c, x.2.2.2 = .slice a n c
theorem stable_val4 : Stable DVal4 := fun _ _ _ _ _ _ _ h => h
def getV (l : List (Int × Value × Value × Value)) (n : Int) : Value × Bool := match l.find? (fun x => x.1 == n) with
  | some x => (.agg #[.int .i64 x.1, x.2.1, x.2.2.1, x.2.2.2], true)
  | none => (.agg #[.int .i64 0, .slice none 0 0, .slice none 0 0, .slice none 0 0], false)
theorem find_at {α : Type} (p : α → Bool) : ∀ (l : List α) (k : Nat) (hk : k < l.length), (∀ j, (hj : j < l.length) → j < k → p l[j] = false) → p l[k] = true → l.find? p = some l[k]
  | [], k, hk, _, _ => by simp at hk
  | a :: l, 0, hk, _, h => by simp [List.find?_cons, (show p a = true from h)]
  | a :: l, k + 1, hk, hb, h => by
    have h0 : p a = false := hb 0 (by simp) (by omega)
    rw [List.find?_cons_of_neg (by simp [h0])]
    exact find_at p l k (by simpa using hk) (fun j hj hjk => hb (j + 1) (by simpa using hj) (by omega)) h
theorem find_none {α : Type} (p : α → Bool) (l : List α) (h : ∀ j, (hj : j < l.length) → p l[j] = false) : l.find? p = none := by
  rw [List.find?_eq_none]
  intro x hx
  obtain ⟨i, hi, rfl⟩ := List.getElem_of_mem hx
  simp [h i hi]
set_option maxRecDepth 100000 in
set_option maxHeartbeats 1600000 in
theorem get_b (vv vu : Value) (l : List (Int × Value × Value × Value)) (n : Int) (w : World) (hv : RdS DVal4 4 All w vv l) (hvu : ∃ a m c, vu = .slice a m c) :
    Calls Try.prog 86 #[.agg #[vv, vu], .int .i64 n] w fun e w' => e = .returned (.tuple #[(getV l n).1, .bool (getV l n).2]) ∧ Up w w' := by
  obtain ⟨x1, x2, x3, rfl⟩ := hvu
  obtain ⟨ao, cap, rfl, hc1, hc2⟩ := hv.val
  have Hv := Lib.hid hv; clear hv
  go_enter Try.func86, Try.ntmps86
  go_wp2_with fail
  go_loopw [11] (fun i wr => ∃ k : Nat, k ≤ l.length ∧ i = .int .i64 k ∧ Up w wr ∧ wr.heap[w.heap.size + 1]? = some (.cells #[.int .i64 0, .slice none 0 0, .slice none 0 0, .slice none 0 0] 121 (0, 0)) ∧ ∀ j, (hj : j < l.length) → j < k → (l[j].1 == n) = false) (fun i _ => l.length - (intOf i).toNat)
  case atStart => exact ⟨0, by omega, rfl, ((Up.refl w).alloc _).alloc _, blk_new (w.alloc _) _ (by simp), fun j _ h => absurd h (by omega)⟩
  case round =>
    obtain ⟨k, hk, rfl, hu, hb, hg⟩ := hrel
    have Hg := Lib.hid hg; have Hb := Lib.hid hb; clear hg hb
    have r0 : wr.cell? ⟨w.heap.size + 1, 0, none⟩ = some (.int .i64 0) := cell_of_row wr _ 0 _ _ _ Hb.out
    have r1 : wr.cell? ⟨w.heap.size + 1, 1, none⟩ = some (.slice none 0 0) := cell_of_row wr _ 1 _ _ _ Hb.out
    have r2 : wr.cell? ⟨w.heap.size + 1, 2, none⟩ = some (.slice none 0 0) := cell_of_row wr _ 2 _ _ _ Hb.out
    have r3 : wr.cell? ⟨w.heap.size + 1, 3, none⟩ = some (.slice none 0 0) := cell_of_row wr _ 3 _ _ _ Hb.out
    have rf' : ∀ o, wr.frozen? ⟨w.heap.size + 1, o, none⟩ = false := fun o => frozen_of_row wr _ o _ _ Hb.out
    have rz : w.heap.size + 1 < wr.heap.size := lt_of_block Hb.out
    by_cases hlt : k < l.length
    · obtain ⟨b, o, cs, rfl, hbz, hl, hcs, hd⟩ := (Hv.out.up stable_val4 hu).at hlt
      obtain ⟨hd, ⟨a1, n1, c1, g1⟩, ⟨a2, n2, c2, g2⟩, ⟨a3, n3, c3, g3⟩⟩ := hd
      have hgg := fun e => find_at (fun x : Int × Value × Value × Value => x.1 == n) l k hlt Hg.out e
      have Hgn := Lib.hid (fun e => no_more (p := fun x : Int × Value × Value × Value => x.1 == n) hlt Hg.out e)
      have Hgg := Lib.hid hgg; clear hgg
      generalize l[k] = x at *
      obtain ⟨xn, xa, xb, xc⟩ := x
      simp only at g1 g2 g3
      subst g1 g2 g3
      subst hd
      have p0 := hcs 0 _ rfl
      have p1 := hcs 1 _ rfl
      have p2 := hcs 2 _ rfl
      have p3 := hcs 3 _ rfl
      simp only [Nat.add_zero] at p0
      have k0 : (0 : Int) ≤ (k : Int) := by omega
      have k1 : (k : Int) < (l.length : Int) := by omega
      have rne : w.heap.size + 1 ≠ wr.heap.size := by omega
      have rne2 : wr.heap.size ≠ w.heap.size + 1 := by omega
      clear hcs hl
      cases e : (xn == n) with
      | true =>
        have hfd := Hgg.out e
        have Hgv := Lib.hid (show getV l n = (.agg #[.int .i64 xn, .slice a1 n1 c1, .slice a2 n2 c2, .slice a3 n3 c3], true) by unfold getV; rw [hfd])
        have Hu := Lib.hid hu
        clear hfd hu
        go_wp2_with fail
        refine bodyPost_ret (v := .tuple #[.agg #[.int .i64 xn, .slice a1 n1 c1, .slice a2 n2 c2, .slice a3 n3 c3], .bool true]) (by simp [results, Try.results86, go_sem, r0, r1, r2, r3, rz, rne, rne2]) rfl ?_
        rw [Hgv.out]
        refine ⟨rfl, ?_⟩
        repeat (first | (with_reducible refine Up.setCell ?_ ?_ _) | (with_reducible refine Up.alloc ?_ _) | (with_reducible refine Up.drew ?_))
        · exact Hu.out
        all_goals (simp only; omega)
      | false =>
        have Hu := Lib.hid hu
        clear hu r0 r1 r2 r3 rf'
        go_wp2_with fail
        go_roundw
        case rel => exact ⟨k + 1, by omega, by go_num, Hu.out.alloc _, blk_old _ Hb.out, Hgn.out e⟩
        case measure => simp [intOf]; omega
    · have hfd := find_none (fun x : Int × Value × Value × Value => x.1 == n) l (fun j hj => Hg.out j hj (by omega))
      have Hgv := Lib.hid (show getV l n = (.agg #[.int .i64 0, .slice none 0 0, .slice none 0 0, .slice none 0 0], false) by unfold getV; rw [hfd])
      have Hu := Lib.hid hu
      clear hfd hu
      go_wp2_with fail
      refine bodyPost_ret (v := .tuple #[.agg #[.int .i64 0, .slice none 0 0, .slice none 0 0, .slice none 0 0], .bool false]) (by simp [results, Try.results86, go_sem, r0, r1, r2, r3, rz]) rfl ?_
      rw [Hgv.out]
      refine ⟨rfl, ?_⟩
      repeat (first | (with_reducible refine Up.setCell ?_ ?_ _) | (with_reducible refine Up.alloc ?_ _) | (with_reducible refine Up.drew ?_))
      · exact Hu.out
      all_goals (simp only; omega)
set_option maxRecDepth 100000 in
set_option maxHeartbeats 800000 in
/-- num, of a number by turns in a record of its own length. -/
theorem num_zig (base : Nat) (v : Value) (l : List UInt8) (x b o : Nat) (w : World) (hx : x < 9223372036854775808) (hl : l.length ≤ 1099511627776) (h2 : w.cell? ⟨b, o + 2, none⟩ = some (.int .i64 0)) (h3 : w.cell? ⟨b, o + 3, none⟩ = some (.int .i64 2))
    (hown : w.ownsRow base 5 1 v l.length (B8 l)) (hb : base ≤ w.heap.size) :
    Calls Try.prog 87 #[v, .pointer (some ⟨b, o, none⟩), .int .u64 x] w fun e w' => ∃ v', e = .returned v' ∧ w'.ownsRow base 5 1 v' (l ++ Lib.uvarint (Lib.zigzag x)).length (B8 (l ++ Lib.uvarint (Lib.zigzag x))) ∧ Evo w w' v v' := by
  have hwr : IntKind.i64.wrap (x : Int) = x := by rw [IntKind.wrap_i64]; omega
  have Hown := Lib.hid hown; clear hown
  go_enter Try.func87, Try.ntmps87
  go_wp2_with fail
  refine (fold_any (x : Int) w (by omega) (by omega)).mono ?_
  rintro e w1 ⟨rfl, rfl⟩
  go_wp2_with fail
  refine (put_eq base v l _ (Lib.zigzag x) _ rfl (Lib.zigzag_lt (by omega) (by omega)) hl Hown.out hb).mono ?_
  rintro e w2 ⟨v2, rfl, how2, hev2⟩
  go_wp2_with fail
  go_ret
  exact ⟨_, rfl, how2, hev2⟩
set_option maxRecDepth 100000 in
set_option maxHeartbeats 1600000 in
/-- blob: a tag, how many bytes there are, they. -/
theorem blob_own (base : Nat) (v : Value) (l m : List UInt8) (vb : Value) (n : Int) (b o : Nat) (w : World) (n0 : 0 ≤ n) (n1 : n < 536870912) (hl : l.length ≤ 1099511627776 - 4100) (hm : m.length ≤ 4000) (h1 : w.cell? ⟨b, o + 1, none⟩ = some (.int .i64 n)) (hv : RdB (Av v) w vb m)
    (hown : w.ownsRow base 5 1 v l.length (B8 l)) (hb : base ≤ w.heap.size) :
    Calls Try.prog 88 #[v, .pointer (some ⟨b, o, none⟩), vb] w fun e w' => ∃ v', e = .returned v' ∧ w'.ownsRow base 5 1 v' (l ++ tagB n.toNat 2 ++ Lib.uvarint m.length ++ m).length (B8 (l ++ tagB n.toNat 2 ++ Lib.uvarint m.length ++ m)) ∧ Evo w w' v v' := by
  obtain ⟨ao, cap, rfl, hc1, hc2⟩ := hv.val
  have Hv := Lib.hid hv; have Hown := Lib.hid hown; clear hv hown
  have htl := tagB_length n.toNat 2 (by omega) (by omega)
  go_enter Try.func88, Try.ntmps88
  go_wp2_with fail
  refine (tag_own base v l n 2 _ n0 n1 (by omega) (by omega) (by omega) Hown.out hb).mono ?_
  rintro e w1 ⟨v1, rfl, how1, hev1⟩
  have hs1 : base ≤ w1.heap.size := Nat.le_trans hb hev1.grown.size
  have hlt : (l ++ tagB n.toNat (Int.toNat 2)).length ≤ 1099511627776 - 4095 := by simp only [List.length_append]; have : Int.toNat 2 = 2 := rfl; rw [this]; omega
  have Hlt := Lib.hid hlt; have How1 := Lib.hid how1; have Hev1 := Lib.hid hev1
  clear how1 hev1 hlt htl
  go_wp2_with fail
  refine (put_eq base v1 _ _ m.length _ (by first | rfl | (rw [IntKind.wrap_u64]; omega)) (by omega) (by have := Hlt.out; omega) How1.out hs1).mono ?_
  rintro e w2 ⟨v2, rfl, how2, hev2⟩
  have hs2 : base ≤ w2.heap.size := Nat.le_trans hs1 hev2.grown.size
  have Hrd2 := Lib.hid (RdB.news (Hv.out.keep stable_u8 (Keep.evo (Hev1.out.trans hev2))))
  have hsum : (l ++ tagB n.toNat (Int.toNat 2) ++ Lib.uvarint m.length).length + m.length ≤ 1099511627776 + 100 := by
    have h1 := Hlt.out
    have h2 := Lib.uvarint_length64 (x := m.length) (by omega)
    rw [List.length_append]
    omega
  have How2 := Lib.hid how2; have Hev2 := Lib.hid hev2; have Hsum := Lib.hid hsum
  clear how2 hev2 hsum
  go_wp2_with (first
    | (at_builtin; go_must (refine wpList_app eU8 _ (by rfl) _ _ (by rfl) base v2 _ _ (by rfl) How2.out ao m.length cap (by rfl) (B8 m) (by simp [B8]) (Hrd2.out.2.1) (Hrd2.out.2.2) (B8_one _) (by have := Hsum.out; omega) (by have := Hsum.out; unfold maxLen; omega) (by omega) ?_; intro v3 w3 how3 hev3; have How3 := Lib.hid how3; have Hev3 := Lib.hid hev3; clear how3 hev3)))
  go_ret
  refine ⟨_, rfl, ?_, Hev1.out.trans (Hev2.out.trans Hev3.out)⟩
  rw [List.length_append, B8_append]
  exact How3.out
end Go.Proofs.Ytplgegffapikoaa
